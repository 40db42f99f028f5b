/- Texts that the proof of NetKeeps leans on, put together (4 of 4). Conditions: each theorem states its own. -/
import Derived.Test.YteiaiilfekojfaaGreatPkNetKeeps3
section
set_option linter.unusedVariables false
set_option linter.unusedSimpArgs false
namespace Go.Proofs.YteiaiilfekojfaaGreat.Net
open Go.RowKit Sx Wire DrawInv
open Msg
def ssB (k : Nat) : List UInt8 := (putM (askM k)).1
theorem ssB_put (k : Nat) (hk : k ≤ 1000) : putM (askM k) = (ssB k, 0) ∧ (ssB k).length ≤ 100000 ∧ takeM (ssB k) = (askM k, 0) := by
  obtain ⟨s, h1, h2, h3⟩ := ask_put k hk
  have e : ssB k = s := by unfold ssB; rw [h1]
  rw [e]
  exact ⟨h1, h2, h3⟩
theorem findM_val {α : Type} [DecidableEq α] : ∀ (M : List (α × Value)) (x : α) (i : Nat), (findM M x i).map (·.2) = (findM M x 0).map (·.2)
  | [], _, _ => rfl
  | p :: M, x, i => by
    unfold findM
    by_cases e : x = p.1
    · rw [if_pos e, if_pos e]; rfl
    · rw [if_neg e, if_neg e, findM_val M x (i + 1), findM_val M x (0 + 1)]
def valM {α : Type} [DecidableEq α] (M : List (α × Value)) (x : α) : Option Value := (findM M x 0).map (·.2)
theorem valM_set {α : Type} [DecidableEq α] : ∀ (M : List (α × Value)) (x y : α) (v : Value), valM (setM M x v) y = if y = x then some v else valM M y
  | [], x, y, v => by
    unfold valM setM findM findM
    by_cases e : y = x
    · rw [if_pos e, if_pos e]; rfl
    · rw [if_neg e, if_neg e]
  | p :: M, x, y, v => by
    unfold valM setM
    by_cases e : x = p.1
    · rw [if_pos e]
      unfold findM
      by_cases e2 : y = x
      · rw [if_pos e2, if_pos e2]; rfl
      · rw [if_neg e2, if_neg e2, if_neg (by rw [← e]; exact e2)]
    · rw [if_neg e]
      have h := valM_set M x y v
      unfold valM at h
      by_cases e2 : y = p.1
      · rw [if_neg (by rw [e2]; exact fun h => e h.symm)]
        unfold findM
        rw [if_pos e2, if_pos e2]
      · have h1 : ∀ N : List (α × Value), (findM (p :: N) y 0).map (·.2) = (findM N y 0).map (·.2) := fun N => by
          conv => lhs; unfold findM
          rw [if_neg e2]
          exact findM_val N y 1
        rw [h1, h1, h]
theorem valM_some {α : Type} [DecidableEq α] (M : List (α × Value)) (x : α) : (findM M x 0).isSome = (valM M x).isSome := by
  unfold valM
  cases findM M x 0 <;> rfl
def prAt (ps : List (Nat × Nat)) (k : Nat) : Nat × Nat := (ps[k]?).getD (0, 0)
def pcl (ps : List (Nat × Nat)) (k : Nat) : Pa := ⟨(prAt ps k).1, (prAt ps k).2, ssB k⟩
def bagK (ps : List (Nat × Nat)) (ks : List Nat) : List Pa := ks.map (pcl ps)
theorem bagK_len (ps : List (Nat × Nat)) (ks : List Nat) : (bagK ps ks).length = ks.length := List.length_map _
theorem prAt_snoc {ps : List (Nat × Nat)} {p : Nat × Nat} {k : Nat} (h : k < ps.length) : prAt (ps ++ [p]) k = prAt ps k := by
  unfold prAt
  rw [List.getElem?_append_left h]
theorem prAt_last (ps : List (Nat × Nat)) (p : Nat × Nat) : prAt (ps ++ [p]) ps.length = p := by
  unfold prAt
  rw [List.getElem?_append_right (Nat.le_refl _), Nat.sub_self]
  rfl
theorem bagK_snoc {ps : List (Nat × Nat)} {p : Nat × Nat} {ks : List Nat} (h : ∀ k ∈ ks, k < ps.length) : bagK (ps ++ [p]) ks = bagK ps ks := by
  unfold bagK
  refine List.map_congr_left fun k hk => ?_
  unfold pcl
  rw [prAt_snoc (h k hk)]
theorem bagK_at (ps : List (Nat × Nat)) (ks : List Nat) (i : Nat) : (bagK ps ks)[i]? = (ks[i]?).map (pcl ps) := List.getElem?_map ..
theorem map_erase {α β : Type} (f : α → β) : ∀ (l : List α) (i : Nat), (l.eraseIdx i).map f = (l.map f).eraseIdx i
  | [], _ => rfl
  | _ :: _, 0 => rfl
  | a :: l, i + 1 => by rw [List.eraseIdx_cons_succ, List.map_cons, List.map_cons, List.eraseIdx_cons_succ, map_erase f l i]
theorem bagK_erase (ps : List (Nat × Nat)) (ks : List Nat) (i : Nat) : (bagK ps ks).eraseIdx i = bagK ps (ks.eraseIdx i) := by
  unfold bagK
  exact (map_erase (pcl ps) ks i).symm
theorem hasB_bagK (ps : List (Nat × Nat)) (ks : List Nat) (f t i : Nat) : hasB (bagK ps ks) f t i = true ↔ ∃ k, ks[i]? = some k ∧ prAt ps k = (f, t) := by
  unfold hasB
  rw [bagK_at]
  cases ks[i]? with
  | none => simp
  | some k => simp [pcl, Prod.ext_iff]
theorem bagK_bytes {ps : List (Nat × Nat)} {ks : List Nat} (h : ∀ k ∈ ks, k ≤ 1000) : ∀ p ∈ bagK ps ks, p.bytes.length ≤ 100000 := fun p hp => by
  unfold bagK at hp
  obtain ⟨k, hk, rfl⟩ := List.mem_map.1 hp
  exact (ssB_put k (h k hk)).2.1
theorem idxs_first {bag : List Pa} {f t i : Nat} (h : findO bag f t 0 = some i) : ∀ j < i, hasB bag f t j = false := fun j hj => by
  cases hb : hasB bag f t j with
  | false => rfl
  | true =>
    exfalso
    unfold findO at h
    rw [if_pos (by decide)] at h
    have h0 : (idxs bag f t bag.length)[0]? = some i := h
    have hi : i < bag.length := (idxs_lt bag f t _ i (List.mem_of_getElem? h0)).1
    have hm : j ∈ idxs bag f t bag.length := by
      unfold idxs
      rw [List.mem_filter, List.mem_range]
      exact ⟨by omega, hb⟩
    have hp : (idxs bag f t bag.length).Pairwise (· < ·) := List.Pairwise.filter _ (List.pairwise_lt_range)
    cases he : idxs bag f t bag.length with
    | nil => rw [he] at h0; cases h0
    | cons a l =>
      rw [he] at h0 hm hp
      injection h0 with h0
      subst h0
      rcases List.mem_cons.1 hm with rfl | hm
      · omega
      · have := (List.pairwise_cons.1 hp).1 j hm; omega
/-- What Take makes of numbers under way. -/
theorem take_keeps {ps : List (Nat × Nat)} {ks : List Nat} {M : CutM} {f t : Nat} {K : Int} (hk : ∀ k ∈ ks, k ≤ 1000) :
    (∃ c, c ≠ 0 ∧ c < 100 ∧ takeN (bagK ps ks) M f t K = (bagK ps ks, (0, 0, ms0 0), c)) ∨
    (∃ j k : Nat, takeN (bagK ps ks) M f t K = (bagK ps (ks.eraseIdx j), (f, t, askM k), 0) ∧ ks[j]? = some k ∧ prAt ps k = (f, t) ∧ cutB M f t = false ∧ (K = 0 → ∀ j' < j, ∀ k', ks[j']? = some k' → prAt ps k' ≠ (f, t))) := by
  unfold takeN
  by_cases h1 : apartB f t = true
  · rw [if_pos h1]
    cases h2 : cutB M f t with
    | true => exact .inl ⟨13, by decide, by decide, by rw [if_pos rfl]⟩
    | false =>
      rw [if_neg (by decide)]
      cases h3 : findO (bagK ps ks) f t K with
      | none => exact .inl ⟨11, by decide, by decide, rfl⟩
      | some j =>
        obtain ⟨h4, h5⟩ := findO_lt h3
        obtain ⟨k, h6, h7⟩ := (hasB_bagK ps ks f t j).1 h5
        have hm := hk k (List.mem_of_getElem? h6)
        have hs := (ssB_put k hm).2.2
        have e : ((bagK ps ks)[j]?.map (·.bytes)).getD [] = ssB k := by rw [bagK_at, h6]; rfl
        refine .inr ⟨j, k, ?_, h6, h7, rfl, fun hK j' hj' k' hk' he => ?_⟩
        · dsimp only
          rw [e, hs, if_neg (fun h => h rfl), bagK_erase]
        · subst hK
          have := idxs_first h3 j' hj'
          rw [(hasB_bagK ps ks f t j').2 ⟨k', hk', he⟩] at this
          cases this
  · rw [if_neg h1]
    exact .inl ⟨2, by decide, by decide, rfl⟩
/-- What holds between two acts. i: acts done; ls: how often each may come; ps: whose each is. -/
structure KI (i : Nat) (ks ls : List Nat) (ps : List (Nat × Nat)) (M MC MT : CutM) (tf : Nat × Nat → Nat) (db : Bool) : Prop where
  lt : ∀ k ∈ ks, k < ps.length
  len : ls.length = ps.length
  cnt : ∀ k, ks.count k ≤ (ls[k]?).getD 0
  small : ∀ v ∈ ls, v ≤ i
  many : ps.length ≤ i
  under : ks.length ≤ i
  mt : AllT M
  mc : AllT MC
  cut : ∀ p, (valM MC p).isSome = true → (valM M (bothN p.1 p.2)).isSome = true
  tv : ∀ p, (valM MT p).getD (.int .u64 0) = .int .u64 (tf p : Int)
  tl : ∀ p, tf p ≤ ps.length
  top : db = false → ks.Pairwise (· < ·) ∧ ∀ k ∈ ks, tf (prAt ps k) ≤ k
theorem KI.start : KI 0 [] [] [] [] [] [] (fun _ => 0) false :=
  { lt := nofun, len := rfl, cnt := fun k => Nat.zero_le _, small := nofun, many := Nat.le_refl _, under := Nat.le_refl _, mt := nofun, mc := nofun, cut := (fun p h => by cases h), tv := fun p => rfl, tl := fun p => Nat.zero_le _, top := fun _ => ⟨.nil, nofun⟩ }
theorem KI.le {i : Nat} {ks ls : List Nat} {ps : List (Nat × Nat)} {M MC MT : CutM} {tf : Nat × Nat → Nat} {db : Bool} (h : KI i ks ls ps M MC MT tf db) (hi : i ≤ 200) : ∀ k ∈ ks, k ≤ 1000 := fun k hk => by have := h.lt k hk; have := h.many; omega
theorem KI.step {i : Nat} {ks ls : List Nat} {ps : List (Nat × Nat)} {M MC MT : CutM} {tf : Nat × Nat → Nat} {db : Bool} (h : KI i ks ls ps M MC MT tf db) : KI (i + 1) ks ls ps M MC MT tf db :=
  { h with small := fun v hv => Nat.le_succ_of_le (h.small v hv), many := Nat.le_succ_of_le h.many, under := Nat.le_succ_of_le h.under }
theorem count_erase {ks : List Nat} {j k : Nat} (h : ks[j]? = some k) (x : Nat) : (ks.eraseIdx j).count x + (if x = k then 1 else 0) = ks.count x := by
  induction ks generalizing j with
  | nil => cases h
  | cons a l ih =>
    cases j with
    | zero =>
      injection h with h
      subst h
      show l.count x + _ = _
      rw [List.count_cons]
      by_cases e : x = a
      · rw [if_pos e, if_pos (by simp [e])]
      · rw [if_neg e, if_neg (by simpa using fun h => e h.symm)]
    | succ j =>
      have := ih (j := j) h
      show (a :: l.eraseIdx j).count x + _ = _
      rw [List.count_cons, List.count_cons]
      omega
theorem mem_erase {ks : List Nat} {j x : Nat} (h : x ∈ ks.eraseIdx j) : x ∈ ks := List.mem_of_mem_eraseIdx h
/-- Losing: nothing that is held changes. -/
theorem KI.drop {i : Nat} {ks ls : List Nat} {ps : List (Nat × Nat)} {M MC MT : CutM} {tf : Nat × Nat → Nat} {db : Bool} (h : KI i ks ls ps M MC MT tf db) (j : Nat) : KI (i + 1) (ks.eraseIdx j) ls ps M MC MT tf db :=
  { h.step with
    lt := fun k hk => h.lt k (mem_erase hk)
    cnt := fun k => Nat.le_trans (List.Sublist.count_le k (List.eraseIdx_sublist ..)) (h.cnt k)
    under := Nat.le_trans (List.length_eraseIdx_le ..) (Nat.le_succ_of_le h.under)
    top := fun e => ⟨(h.top e).1.sublist (List.eraseIdx_sublist ..), fun k hk => (h.top e).2 k (mem_erase hk)⟩ }
theorem KI.has {i : Nat} {ks ls : List Nat} {ps : List (Nat × Nat)} {M MC MT : CutM} {tf : Nat × Nat → Nat} {db : Bool} (h : KI i ks ls ps M MC MT tf db) {j k : Nat} (hj : ks[j]? = some k) : k < ls.length ∧ ∃ v, ls[k]? = some v ∧ 1 ≤ v ∧ v ≤ i := by
  have hk := h.lt k (List.mem_of_getElem? hj)
  have hl : k < ls.length := by rw [h.len]; exact hk
  refine ⟨hl, _, List.getElem?_eq_getElem hl, ?_, h.small _ (List.getElem_mem hl)⟩
  have h1 := h.cnt k
  rw [List.getElem?_eq_getElem hl] at h1
  have h2 : 0 < ks.count k := List.count_pos_iff.2 (List.mem_of_getElem? hj)
  rw [Option.getD_some] at h1
  omega
theorem getD_set (ls : List Nat) (k v x : Nat) : ((ls.set k v)[x]?).getD 0 = if x = k ∧ k < ls.length then v else (ls[x]?).getD 0 := by
  rw [List.getElem?_set]
  by_cases e : k = x
  · subst e
    by_cases hl : k < ls.length
    · rw [if_pos rfl, if_pos hl, if_pos ⟨rfl, hl⟩]; rfl
    · rw [if_pos rfl, if_neg hl, if_neg (fun h => hl h.2), List.getElem?_eq_none (by omega)]
  · rw [if_neg e, if_neg (fun h => e h.1.symm)]
/-- Taking, where nothing is told of the order. -/
theorem KI.take {i : Nat} {ks ls : List Nat} {ps : List (Nat × Nat)} {M MC MT : CutM} {tf : Nat × Nat → Nat} {db : Bool} (h : KI i ks ls ps M MC MT tf db) {j k v : Nat} (hj : ks[j]? = some k) (hv : ls[k]? = some v) : KI (i + 1) (ks.eraseIdx j) (ls.set k (v - 1)) ps M MC MT tf db :=
  { h.drop j with
    len := by rw [List.length_set]; exact h.len
    cnt := fun x => by
      have h1 := count_erase hj x
      have h2 := h.cnt x
      rw [getD_set]
      by_cases e : x = k
      · subst e
        rw [if_pos rfl] at h1
        rw [hv] at h2
        rw [if_pos ⟨rfl, (List.getElem?_eq_some_iff.1 hv).1⟩]
        simp only [Option.getD_some] at h2
        omega
      · rw [if_neg e] at h1
        rw [if_neg (fun h => e h.1)]
        omega
    small := fun u hu => by
      rcases List.mem_or_eq_of_mem_set hu with hu | rfl
      · exact Nat.le_succ_of_le (h.small u hu)
      · have := h.small v (List.mem_of_getElem? hv); omega }
theorem erase_after {ks : List Nat} (hp : ks.Pairwise (· < ·)) : ∀ {j k x : Nat}, ks[j]? = some k → x ∈ ks.eraseIdx j → (∃ j', j' < j ∧ ks[j']? = some x) ∨ k < x := by
  induction ks with
  | nil => intro j k x h; cases h
  | cons a l ih =>
    intro j k x h hx
    obtain ⟨h1, h2⟩ := List.pairwise_cons.1 hp
    cases j with
    | zero =>
      injection h with h
      subst h
      exact .inr (h1 x hx)
    | succ j =>
      rcases List.mem_cons.1 hx with rfl | hx
      · exact .inl ⟨0, by omega, rfl⟩
      · rcases ih h2 (j := j) h hx with ⟨j', h3, h4⟩ | h3
        · exact .inl ⟨j' + 1, by omega, h4⟩
        · exact .inr h3
/-- Taking the first one of its pair, where none was doubled. -/
theorem KI.first {i : Nat} {ks ls : List Nat} {ps : List (Nat × Nat)} {M MC MT : CutM} {tf : Nat × Nat → Nat} (h : KI i ks ls ps M MC MT tf false) {j k v : Nat} {p : Nat × Nat} (hj : ks[j]? = some k) (hv : ls[k]? = some v) (hp : prAt ps k = p) (hf : ∀ j' < j, ∀ k', ks[j']? = some k' → prAt ps k' ≠ p) :
    KI (i + 1) (ks.eraseIdx j) (ls.set k (v - 1)) ps M MC (setM MT p (.int .u64 (k : Int))) (fun q => if q = p then k else tf q) false :=
  { h.take hj hv with
    tv := fun q => by
      rw [valM_set]
      by_cases e : q = p
      · rw [if_pos e, if_pos e]; rfl
      · rw [if_neg e, if_neg e]; exact h.tv q
    tl := fun q => by
      show (if q = p then k else tf q) ≤ _
      have := h.lt k (List.mem_of_getElem? hj)
      have := h.tl q
      split <;> omega
    top := fun e => by
      obtain ⟨h1, h2⟩ := h.top e
      refine ⟨h1.sublist (List.eraseIdx_sublist ..), fun x hx => ?_⟩
      show (if prAt ps x = p then k else tf (prAt ps x)) ≤ x
      by_cases e2 : prAt ps x = p
      · rw [if_pos e2]
        rcases erase_after h1 hj hx with ⟨j', h3, h4⟩ | h3
        · exact absurd e2 (hf j' h3 x h4)
        · omega
      · rw [if_neg e2]; exact h2 x (mem_erase hx) }
theorem KI.least {i : Nat} {ks ls : List Nat} {ps : List (Nat × Nat)} {M MC MT : CutM} {tf : Nat × Nat → Nat} (h : KI i ks ls ps M MC MT tf false) {j k : Nat} {p : Nat × Nat} (hj : ks[j]? = some k) (hp : prAt ps k = p) : tf p ≤ k := by
  subst hp
  exact (h.top rfl).2 k (List.mem_of_getElem? hj)
theorem KI.uncut {i : Nat} {ks ls : List Nat} {ps : List (Nat × Nat)} {M MC MT : CutM} {tf : Nat × Nat → Nat} {db : Bool} (h : KI i ks ls ps M MC MT tf db) {f t : Nat} (hc : cutB M f t = false) : ((valM MC (f, t)).getD (.bool false)) = .bool false := by
  have h1 := h.cut (f, t)
  unfold cutB at hc
  rw [valM_some] at hc
  dsimp only at h1
  rw [hc] at h1
  cases hv : valM MC (f, t) with
  | none => rfl
  | some v => rw [hv] at h1; exact absurd (h1 rfl) (by decide)
/-- Sent, and come to be under way. -/
theorem KI.sent {i : Nat} {ks ls : List Nat} {ps : List (Nat × Nat)} {M MC MT : CutM} {tf : Nat × Nat → Nat} {db : Bool} (h : KI i ks ls ps M MC MT tf db) (p : Nat × Nat) : KI (i + 1) (ks ++ [ls.length]) (ls ++ [1]) (ps ++ [p]) M MC MT tf db := by
  have hl := h.len
  refine { h.step with lt := fun k hk => ?_, len := by simp [hl], cnt := fun k => ?_, small := fun v hv => ?_, many := ?_, under := ?_, tl := fun q => ?_, top := fun e => ⟨?_, fun k hk => ?_⟩ }
  · rcases List.mem_append.1 hk with hk | hk
    · have := h.lt k hk; simp; omega
    · have := List.mem_singleton.1 hk; simp; omega
  · rw [List.count_append, List.count_singleton]
    have h1 := h.cnt k
    by_cases e : k < ls.length
    · rw [List.getElem?_append_left e, if_neg (by simp; omega)]
      exact h1
    · rw [List.getElem?_append_right (by omega)]
      rw [List.getElem?_eq_none (by omega)] at h1
      simp only [Option.getD_none] at h1
      by_cases e2 : k = ls.length
      · subst e2; simp; omega
      · rw [if_neg (by simp; omega)]
        omega
  · rcases List.mem_append.1 hv with hv | hv
    · exact Nat.le_succ_of_le (h.small v hv)
    · rw [List.mem_singleton.1 hv]; omega
  · have := h.many; simp; omega
  · have := h.under; simp; omega
  · have := h.tl q; simp; omega
  · refine List.pairwise_append.2 ⟨(h.top e).1, List.pairwise_singleton _ _, fun a ha b hb => ?_⟩
    rw [List.mem_singleton.1 hb, hl]
    exact h.lt a ha
  · rcases List.mem_append.1 hk with hk | hk
    · rw [prAt_snoc (h.lt k hk)]
      exact (h.top e).2 k hk
    · rw [List.mem_singleton.1 hk, hl, prAt_last]
      exact h.tl p
/-- Refused: a number that never comes. -/
theorem KI.unsent {i : Nat} {ks ls : List Nat} {ps : List (Nat × Nat)} {M MC MT : CutM} {tf : Nat × Nat → Nat} {db : Bool} (h : KI i ks ls ps M MC MT tf db) (p : Nat × Nat) : KI (i + 1) ks (ls ++ [0]) (ps ++ [p]) M MC MT tf db := by
  have hl := h.len
  refine { h.step with lt := fun k hk => ?_, len := by simp [hl], cnt := fun k => ?_, small := fun v hv => ?_, many := ?_, tl := fun q => ?_, top := fun e => ⟨(h.top e).1, fun k hk => ?_⟩ }
  · have := h.lt k hk; simp; omega
  · have h1 := h.cnt k
    by_cases e : k < ls.length
    · rw [List.getElem?_append_left e]
      exact h1
    · rw [List.getElem?_eq_none (by omega)] at h1
      simp only [Option.getD_none] at h1
      omega
  · rcases List.mem_append.1 hv with hv | hv
    · exact Nat.le_succ_of_le (h.small v hv)
    · rw [List.mem_singleton.1 hv]; omega
  · have := h.many; simp; omega
  · have := h.tl q; simp; omega
  · rw [prAt_snoc (h.lt k hk)]
    exact (h.top e).2 k hk
/-- Each letter of a pair may have been doubled. -/
def moreL (ls : List Nat) (ps : List (Nat × Nat)) (p : Nat × Nat) : List Nat := ls.mapIdx fun k v => if prAt ps k = p ∧ 0 < v then v + 1 else v
theorem moreL_at (ls : List Nat) (ps : List (Nat × Nat)) (p : Nat × Nat) (k : Nat) : (moreL ls ps p)[k]? = (ls[k]?).map fun v => if prAt ps k = p ∧ 0 < v then v + 1 else v := by
  unfold moreL
  rw [List.getElem?_mapIdx]
theorem moreL_len (ls : List Nat) (ps : List (Nat × Nat)) (p : Nat × Nat) : (moreL ls ps p).length = ls.length := List.length_mapIdx
theorem KI.doubled {i : Nat} {ks ls : List Nat} {ps : List (Nat × Nat)} {M MC MT : CutM} {tf : Nat × Nat → Nat} {db : Bool} (h : KI i ks ls ps M MC MT tf db) {j k : Nat} {p : Nat × Nat} (hj : ks[j]? = some k) (hp : prAt ps k = p) : KI (i + 1) (ks ++ [k]) (moreL ls ps p) ps M MC MT tf true := by
  have hkm := List.mem_of_getElem? hj
  refine { h.step with lt := fun x hx => ?_, len := by rw [moreL_len]; exact h.len, cnt := fun x => ?_, small := fun v hv => ?_, under := ?_, top := fun e => by cases e }
  · rcases List.mem_append.1 hx with hx | hx
    · exact h.lt x hx
    · rw [List.mem_singleton.1 hx]; exact h.lt k hkm
  · rw [List.count_append, List.count_singleton, moreL_at]
    have h1 := h.cnt x
    cases hx : ls[x]? with
    | none =>
      rw [hx] at h1
      simp only [Option.getD_none, Option.map_none] at h1 ⊢
      have : x ≠ k := fun e => by
        subst e
        have := h.lt x hkm
        rw [← h.len] at this
        rw [List.getElem?_eq_getElem this] at hx
        cases hx
      rw [if_neg (by simpa using fun h => this h.symm)]
      omega
    | some v =>
      rw [hx] at h1
      simp only [Option.getD_some, Option.map_some] at h1 ⊢
      by_cases e : x = k
      · subst e
        have h2 : 0 < ks.count x := List.count_pos_iff.2 hkm
        rw [if_pos (by simp), if_pos ⟨hp, by omega⟩]
        omega
      · rw [if_neg (by simpa using fun h => e h.symm)]
        split <;> omega
  · obtain ⟨x, hx⟩ := List.getElem?_of_mem hv
    rw [moreL_at] at hx
    cases hl : ls[x]? with
    | none => rw [hl] at hx; cases hx
    | some u =>
      rw [hl] at hx
      simp only [Option.map_some, Option.some.injEq] at hx
      have := h.small u (List.mem_of_getElem? hl)
      split at hx <;> omega
  · have := h.under; simp; omega
theorem AllT_nil : AllT [] := fun _ h => by cases h
theorem both_comm (a b : Nat) : bothN a b = bothN b a := by
  unfold bothN
  rw [Nat.min_comm, Nat.max_comm]
theorem some_set {M : CutM} {x y : Nat × Nat} {v : Value} (h : (valM M y).isSome = true) : (valM (setM M x v) y).isSome = true := by
  rw [valM_set]
  split
  · rfl
  · exact h
theorem KI.cuts {i : Nat} {ks ls : List Nat} {ps : List (Nat × Nat)} {M MC MT : CutM} {tf : Nat × Nat → Nat} {db : Bool} (h : KI i ks ls ps M MC MT tf db) (f t : Nat) : KI (i + 1) ks ls ps (setM M (bothN f t) (.bool true)) (setM (setM MC (f, t) (.bool true)) (t, f) (.bool true)) MT tf db :=
  { h.step with
    mt := allT_set _ _ h.mt
    mc := allT_set _ _ (allT_set _ _ h.mc)
    cut := fun p hp => by
      by_cases e1 : p = (t, f)
      · subst e1
        rw [valM_set, if_pos (both_comm t f)]; rfl
      by_cases e2 : p = (f, t)
      · subst e2
        rw [valM_set, if_pos rfl]; rfl
      · rw [valM_set, if_neg e1, valM_set, if_neg e2] at hp
        exact some_set (h.cut p hp) }
theorem KI.heal {i : Nat} {ks ls : List Nat} {ps : List (Nat × Nat)} {M MC MT : CutM} {tf : Nat × Nat → Nat} {db : Bool} (h : KI i ks ls ps M MC MT tf db) : KI (i + 1) ks ls ps [] [] MT tf db :=
  { h.step with mt := AllT_nil, mc := AllT_nil, cut := fun p hp => by cases hp }
/-- What Drop and Double make of numbers under way. -/
theorem drop_keeps (ps : List (Nat × Nat)) (ks : List Nat) (f t : Nat) (K : Int) : (∃ c, c ≠ 0 ∧ c < 100 ∧ dropN (bagK ps ks) f t K = (bagK ps ks, c)) ∨ (∃ j, j < ks.length ∧ dropN (bagK ps ks) f t K = (bagK ps (ks.eraseIdx j), 0)) := by
  unfold dropN
  by_cases h1 : apartB f t = true
  · rw [if_pos h1]
    cases h3 : findO (bagK ps ks) f t K with
    | none => exact .inl ⟨11, by decide, by decide, rfl⟩
    | some j =>
      have := (findO_lt h3).1
      rw [bagK_len] at this
      exact .inr ⟨j, this, by dsimp only; rw [bagK_erase]⟩
  · rw [if_neg h1]; exact .inl ⟨2, by decide, by decide, rfl⟩
theorem double_keeps (ps : List (Nat × Nat)) (ks : List Nat) (f t : Nat) (K : Int) (hl : ks.length ≤ 200) : (∃ c, c ≠ 0 ∧ c < 100 ∧ doubleN (bagK ps ks) f t K = (bagK ps ks, c)) ∨ (∃ j k : Nat, ks[j]? = some k ∧ prAt ps k = (f, t) ∧ doubleN (bagK ps ks) f t K = (bagK ps (ks ++ [k]), 0)) := by
  unfold doubleN
  by_cases h1 : apartB f t = true
  · rw [if_pos h1]
    cases h3 : findO (bagK ps ks) f t K with
    | none => exact .inl ⟨11, by decide, by decide, rfl⟩
    | some j =>
      obtain ⟨h4, h5⟩ := findO_lt h3
      obtain ⟨k, h6, h7⟩ := (hasB_bagK ps ks f t j).1 h5
      refine .inr ⟨j, k, h6, h7, ?_⟩
      dsimp only
      rw [if_neg (by rw [bagK_len]; omega), bagK_at, h6]
      unfold bagK
      rw [List.map_append]
      rfl
  · rw [if_neg h1]; exact .inl ⟨2, by decide, by decide, rfl⟩
theorem send_keeps (ps : List (Nat × Nat)) (ks : List Nat) (p : Nat × Nat) (k : Nat) (hk : k ≤ 1000) (hl : ks.length ≤ 200) (hp : prAt ps k = p) : (∃ c, c ≠ 0 ∧ c < 100 ∧ sendN (bagK ps ks) p.1 p.2 (askM k) = (bagK ps ks, c)) ∨ sendN (bagK ps ks) p.1 p.2 (askM k) = (bagK ps (ks ++ [k]), 0) := by
  unfold sendN
  by_cases h1 : apartB p.1 p.2 = true
  · rw [if_pos h1, (ssB_put k hk).1, if_neg (fun h => h rfl), if_neg (by rw [bagK_len]; omega)]
    refine .inr ?_
    unfold bagK
    rw [List.map_append]
    unfold pcl
    rw [← hp]
    rfl
  · rw [if_neg h1]; exact .inl ⟨2, by decide, by decide, rfl⟩
end Go.Proofs.YteiaiilfekojfaaGreat.Net
end
section
set_option linter.unusedVariables false
namespace Go.Proofs.YteiaiilfekojfaaGreat.Msg
open Go.Joins Go.RowKit Go.WideShapes Go.ChangeShapes Go.Deep

structure Vx where
  slot : Nat
  n : Nat
  r : Nat
  value : List UInt8
def Vx.Fits (x : Vx) : Prop := x.slot < 18446744073709551616 ∧ x.n < 18446744073709551616 ∧ x.r < 256 ∧ x.value.length ≤ 9223372036854775807
def vxC (x : Vx) : List Value := [.int .u64 (x.slot : Int), .int .u64 (x.n : Int), .int .u8 (x.r : Int), .string ⟨x.value.toArray⟩]
set_option linter.unusedSimpArgs false in
set_option maxRecDepth 100000 in
theorem dec_vx {w : World} : ∀ n es, es.length = 4 → Leafy Tryz.prog w n 92 es → ∃ x, Vx.Fits x ∧ es = vxC x := by
  intro n es hlen h
  match es, hlen with
  | [c0, c1, c2, c3], _ =>
    have e0 : Tryz.prog.cellsOf 24 = 2 := by kernel_rfl
    have e1 : Tryz.prog.cellsOf 9 = 1 := by kernel_rfl
    have e2 : Tryz.prog.cellsOf 22 = 1 := by kernel_rfl
    have e3 : Tryz.prog.cellsOf 5 = 1 := by kernel_rfl
    obtain ⟨m1, _, hf1⟩ := leafy_struct Tryz.underlying92 h
    have g1_0 : Leafy Tryz.prog w m1 22 ((([c0, c1, c2, c3] : List Value).drop 0).take (Tryz.prog.cellsOf 22)) := hf1 0 _ rfl
    rw [e2] at g1_0
    simp only [List.drop_zero, List.drop_succ_cons, List.take_succ_cons, List.take_zero] at g1_0
    have g1_1 : Leafy Tryz.prog w m1 24 ((([c0, c1, c2, c3] : List Value).drop 1).take (Tryz.prog.cellsOf 24)) := hf1 1 _ rfl
    rw [e0] at g1_1
    simp only [List.drop_zero, List.drop_succ_cons, List.take_succ_cons, List.take_zero] at g1_1
    have g1_2 : Leafy Tryz.prog w m1 9 ((([c0, c1, c2, c3] : List Value).drop 3).take (Tryz.prog.cellsOf 9)) := hf1 2 _ rfl
    rw [e1] at g1_2
    simp only [List.drop_zero, List.drop_succ_cons, List.take_succ_cons, List.take_zero] at g1_2
    obtain ⟨z0, q0, w0⟩ := leafy_int Tryz.underlying22 g1_0
    obtain rfl : c0 = _ := List.head_eq_of_cons_eq q0
    have b0 := bounds_u64 w0
    obtain ⟨x0, rfl⟩ := Int.eq_ofNat_of_zero_le b0.1
    obtain ⟨m2, _, hf2⟩ := leafy_struct Tryz.underlying24 g1_1
    have g2_0 : Leafy Tryz.prog w m2 22 ((([c1, c2] : List Value).drop 0).take (Tryz.prog.cellsOf 22)) := hf2 0 _ rfl
    rw [e2] at g2_0
    simp only [List.drop_zero, List.drop_succ_cons, List.take_succ_cons, List.take_zero] at g2_0
    have g2_1 : Leafy Tryz.prog w m2 5 ((([c1, c2] : List Value).drop 1).take (Tryz.prog.cellsOf 5)) := hf2 1 _ rfl
    rw [e3] at g2_1
    simp only [List.drop_zero, List.drop_succ_cons, List.take_succ_cons, List.take_zero] at g2_1
    obtain ⟨z1, q1, w1⟩ := leafy_int Tryz.underlying22 g2_0
    obtain rfl : c1 = _ := List.head_eq_of_cons_eq q1
    have b1 := bounds_u64 w1
    obtain ⟨x1, rfl⟩ := Int.eq_ofNat_of_zero_le b1.1
    obtain ⟨z2, q2, w2⟩ := leafy_int Tryz.underlying5 g2_1
    obtain rfl : c2 = _ := List.head_eq_of_cons_eq q2
    have b2 := bounds_u8 w2
    obtain ⟨x2, rfl⟩ := Int.eq_ofNat_of_zero_le b2.1
    obtain ⟨x3, q3, b3⟩ := leafy_string Tryz.underlying9 g1_2
    obtain rfl : c3 = _ := List.head_eq_of_cons_eq q3
    exact ⟨⟨x0, x1, x2, x3⟩, by simp only [Vx.Fits]; omega, rfl⟩

set_option maxRecDepth 100000 in
theorem dec_vo {w : World} : ∀ n es, es.length = 4 → Leafy Tryz.prog w n 92 es → ∃ x : Vo, x.Fits ∧ es = voL x := by
  intro n es hl h
  obtain ⟨x, hx, he⟩ := dec_vx n es hl h
  simp only [Vx.Fits] at hx
  exact ⟨⟨x.slot, x.n, x.r, x.value⟩, ⟨hx.1, hx.2.1, hx.2.2.1⟩, he⟩
structure Ix where
  slot : Nat
  value : List UInt8
def Ix.Fits (x : Ix) : Prop := x.slot < 18446744073709551616 ∧ x.value.length ≤ 9223372036854775807
def ixC (x : Ix) : List Value := [.int .u64 (x.slot : Int), .string ⟨x.value.toArray⟩]
set_option linter.unusedSimpArgs false in
set_option maxRecDepth 100000 in
theorem dec_ix {w : World} : ∀ n es, es.length = 2 → Leafy Tryz.prog w n 94 es → ∃ x, Ix.Fits x ∧ es = ixC x := by
  intro n es hlen h
  match es, hlen with
  | [c0, c1], _ =>
    have e0 : Tryz.prog.cellsOf 9 = 1 := by kernel_rfl
    have e1 : Tryz.prog.cellsOf 22 = 1 := by kernel_rfl
    obtain ⟨m1, _, hf1⟩ := leafy_struct Tryz.underlying94 h
    have g1_0 : Leafy Tryz.prog w m1 22 ((([c0, c1] : List Value).drop 0).take (Tryz.prog.cellsOf 22)) := hf1 0 _ rfl
    rw [e1] at g1_0
    simp only [List.drop_zero, List.drop_succ_cons, List.take_succ_cons, List.take_zero] at g1_0
    have g1_1 : Leafy Tryz.prog w m1 9 ((([c0, c1] : List Value).drop 1).take (Tryz.prog.cellsOf 9)) := hf1 1 _ rfl
    rw [e0] at g1_1
    simp only [List.drop_zero, List.drop_succ_cons, List.take_succ_cons, List.take_zero] at g1_1
    obtain ⟨z0, q0, w0⟩ := leafy_int Tryz.underlying22 g1_0
    obtain rfl : c0 = _ := List.head_eq_of_cons_eq q0
    have b0 := bounds_u64 w0
    obtain ⟨x0, rfl⟩ := Int.eq_ofNat_of_zero_le b0.1
    obtain ⟨x1, q1, b1⟩ := leafy_string Tryz.underlying9 g1_1
    obtain rfl : c1 = _ := List.head_eq_of_cons_eq q1
    exact ⟨⟨x0, x1⟩, by simp only [Ix.Fits]; omega, rfl⟩

theorem dec_im {w : World} : ∀ n es, es.length = 2 → Leafy Tryz.prog w n 94 es → ∃ x : Im, x.slot < 18446744073709551616 ∧ es = imL x := by
  intro n es hl h
  obtain ⟨x, hx, he⟩ := dec_ix n es hl h
  simp only [Ix.Fits] at hx
  exact ⟨⟨x.slot, x.value⟩, hx.1, he⟩
set_option maxRecDepth 100000 in
theorem leafy_vos {w : World} {n : Nat} {cs : List Value} (h : Leafy Tryz.prog w n 25 cs) : ∃ (A : Option Addr) (c : Nat) (V : List Vo), cs = [.slice A V.length c] ∧ Rows w A 4 voL V ∧ (∀ x ∈ V, x.Fits) ∧ V.length ≤ 9223372036854775807 := by
  cases n with
  | zero => exact h.elim
  | succ n =>
    unfold Leafy at h
    rw [Tryz.underlying25] at h
    have e4 : Tryz.prog.cellsOf 92 = 4 := by kernel_rfl
    rcases h with h0 | ⟨a, len, cap, h0, hl, hc, hi⟩
    · exact ⟨none, 0, [], h0, Rows.nil _ _ _ _, by simp, by simp⟩
    · obtain ⟨l, h1, h2, h3⟩ := rows_of (w := w) (sz := 4) (cells := voL) (a := a) (m := len) (Q := fun x => x.Fits) (fun i hil => by
        obtain ⟨es, e1, e2, e3⟩ := hi i hil
        obtain ⟨x, hx, he⟩ := dec_vo n es (by rw [e1, e4]) e2
        exact ⟨x, hx, es, he, by rw [e4] at e3; exact e3⟩) (fun x => by rw [voL_len]; omega)
      exact ⟨some a, cap, l, by rw [h1]; exact h0, h3, h2, by omega⟩
set_option maxRecDepth 100000 in
theorem leafy_ims {w : World} {n : Nat} {cs : List Value} (h : Leafy Tryz.prog w n 26 cs) : ∃ (A : Option Addr) (c : Nat) (V : List Im), cs = [.slice A V.length c] ∧ Rows w A 2 imL V ∧ (∀ x ∈ V, x.slot < 18446744073709551616) ∧ V.length ≤ 9223372036854775807 := by
  cases n with
  | zero => exact h.elim
  | succ n =>
    unfold Leafy at h
    rw [Tryz.underlying26] at h
    have e4 : Tryz.prog.cellsOf 94 = 2 := by kernel_rfl
    rcases h with h0 | ⟨a, len, cap, h0, hl, hc, hi⟩
    · exact ⟨none, 0, [], h0, Rows.nil _ _ _ _, by simp, by simp⟩
    · obtain ⟨l, h1, h2, h3⟩ := rows_of (w := w) (sz := 2) (cells := imL) (a := a) (m := len) (Q := fun x => x.slot < 18446744073709551616) (fun i hil => by
        obtain ⟨es, e1, e2, e3⟩ := hi i hil
        obtain ⟨x, hx, he⟩ := dec_im n es (by rw [e1, e4]) e2
        exact ⟨x, hx, es, he, by rw [e4] at e3; exact e3⟩) (fun x => by rw [imL_len]; omega)
      exact ⟨some a, cap, l, by rw [h1]; exact h0, h3, h2, by omega⟩
set_option linter.unusedSimpArgs false in
set_option maxRecDepth 100000 in
theorem dec_msg {w : World} : ∀ n es, es.length = 18 → Leafy Tryz.prog w n 33 es → ∃ (m : Ms) (A : Option Addr) (ka : Nat) (B : Option Addr) (kb : Nat), m.Fits ∧ MsRows w m A B ∧ (m.votes.length ≤ 9223372036854775807 ∧ m.items.length ≤ 9223372036854775807) ∧ es = msL m (.slice A m.votes.length ka) (.slice B m.items.length kb) := by
  intro n es hlen h
  match es, hlen with
  | [c0, c1, c2, c3, c4, c5, c6, c7, c8, c9, c10, c11, c12, c13, c14, c15, c16, c17], _ =>
    have e0 : Tryz.prog.cellsOf 26 = 1 := by kernel_rfl
    have e1 : Tryz.prog.cellsOf 25 = 1 := by kernel_rfl
    have e2 : Tryz.prog.cellsOf 24 = 2 := by kernel_rfl
    have e3 : Tryz.prog.cellsOf 29 = 7 := by kernel_rfl
    have e4 : Tryz.prog.cellsOf 31 = 2 := by kernel_rfl
    have e5 : Tryz.prog.cellsOf 9 = 1 := by kernel_rfl
    have e6 : Tryz.prog.cellsOf 27 = 1 := by kernel_rfl
    have e7 : Tryz.prog.cellsOf 22 = 1 := by kernel_rfl
    have e8 : Tryz.prog.cellsOf 5 = 1 := by kernel_rfl
    obtain ⟨m1, _, hf1⟩ := leafy_struct Tryz.underlying33 h
    have g1_0 : Leafy Tryz.prog w m1 5 ((([c0, c1, c2, c3, c4, c5, c6, c7, c8, c9, c10, c11, c12, c13, c14, c15, c16, c17] : List Value).drop 0).take (Tryz.prog.cellsOf 5)) := hf1 0 _ rfl
    rw [e8] at g1_0
    simp only [List.drop_zero, List.drop_succ_cons, List.take_succ_cons, List.take_zero] at g1_0
    have g1_1 : Leafy Tryz.prog w m1 24 ((([c0, c1, c2, c3, c4, c5, c6, c7, c8, c9, c10, c11, c12, c13, c14, c15, c16, c17] : List Value).drop 1).take (Tryz.prog.cellsOf 24)) := hf1 1 _ rfl
    rw [e2] at g1_1
    simp only [List.drop_zero, List.drop_succ_cons, List.take_succ_cons, List.take_zero] at g1_1
    have g1_2 : Leafy Tryz.prog w m1 22 ((([c0, c1, c2, c3, c4, c5, c6, c7, c8, c9, c10, c11, c12, c13, c14, c15, c16, c17] : List Value).drop 3).take (Tryz.prog.cellsOf 22)) := hf1 2 _ rfl
    rw [e7] at g1_2
    simp only [List.drop_zero, List.drop_succ_cons, List.take_succ_cons, List.take_zero] at g1_2
    have g1_3 : Leafy Tryz.prog w m1 22 ((([c0, c1, c2, c3, c4, c5, c6, c7, c8, c9, c10, c11, c12, c13, c14, c15, c16, c17] : List Value).drop 4).take (Tryz.prog.cellsOf 22)) := hf1 3 _ rfl
    rw [e7] at g1_3
    simp only [List.drop_zero, List.drop_succ_cons, List.take_succ_cons, List.take_zero] at g1_3
    have g1_4 : Leafy Tryz.prog w m1 5 ((([c0, c1, c2, c3, c4, c5, c6, c7, c8, c9, c10, c11, c12, c13, c14, c15, c16, c17] : List Value).drop 5).take (Tryz.prog.cellsOf 5)) := hf1 4 _ rfl
    rw [e8] at g1_4
    simp only [List.drop_zero, List.drop_succ_cons, List.take_succ_cons, List.take_zero] at g1_4
    have g1_5 : Leafy Tryz.prog w m1 9 ((([c0, c1, c2, c3, c4, c5, c6, c7, c8, c9, c10, c11, c12, c13, c14, c15, c16, c17] : List Value).drop 6).take (Tryz.prog.cellsOf 9)) := hf1 5 _ rfl
    rw [e5] at g1_5
    simp only [List.drop_zero, List.drop_succ_cons, List.take_succ_cons, List.take_zero] at g1_5
    have g1_6 : Leafy Tryz.prog w m1 25 ((([c0, c1, c2, c3, c4, c5, c6, c7, c8, c9, c10, c11, c12, c13, c14, c15, c16, c17] : List Value).drop 7).take (Tryz.prog.cellsOf 25)) := hf1 6 _ rfl
    rw [e1] at g1_6
    simp only [List.drop_zero, List.drop_succ_cons, List.take_succ_cons, List.take_zero] at g1_6
    have g1_7 : Leafy Tryz.prog w m1 26 ((([c0, c1, c2, c3, c4, c5, c6, c7, c8, c9, c10, c11, c12, c13, c14, c15, c16, c17] : List Value).drop 8).take (Tryz.prog.cellsOf 26)) := hf1 7 _ rfl
    rw [e0] at g1_7
    simp only [List.drop_zero, List.drop_succ_cons, List.take_succ_cons, List.take_zero] at g1_7
    have g1_8 : Leafy Tryz.prog w m1 29 ((([c0, c1, c2, c3, c4, c5, c6, c7, c8, c9, c10, c11, c12, c13, c14, c15, c16, c17] : List Value).drop 9).take (Tryz.prog.cellsOf 29)) := hf1 8 _ rfl
    rw [e3] at g1_8
    simp only [List.drop_zero, List.drop_succ_cons, List.take_succ_cons, List.take_zero] at g1_8
    have g1_9 : Leafy Tryz.prog w m1 31 ((([c0, c1, c2, c3, c4, c5, c6, c7, c8, c9, c10, c11, c12, c13, c14, c15, c16, c17] : List Value).drop 16).take (Tryz.prog.cellsOf 31)) := hf1 9 _ rfl
    rw [e4] at g1_9
    simp only [List.drop_zero, List.drop_succ_cons, List.take_succ_cons, List.take_zero] at g1_9
    obtain ⟨z0, q0, w0⟩ := leafy_int Tryz.underlying5 g1_0
    obtain rfl : c0 = _ := List.head_eq_of_cons_eq q0
    have b0 := bounds_u8 w0
    obtain ⟨x0, rfl⟩ := Int.eq_ofNat_of_zero_le b0.1
    obtain ⟨m2, _, hf2⟩ := leafy_struct Tryz.underlying24 g1_1
    have g2_0 : Leafy Tryz.prog w m2 22 ((([c1, c2] : List Value).drop 0).take (Tryz.prog.cellsOf 22)) := hf2 0 _ rfl
    rw [e7] at g2_0
    simp only [List.drop_zero, List.drop_succ_cons, List.take_succ_cons, List.take_zero] at g2_0
    have g2_1 : Leafy Tryz.prog w m2 5 ((([c1, c2] : List Value).drop 1).take (Tryz.prog.cellsOf 5)) := hf2 1 _ rfl
    rw [e8] at g2_1
    simp only [List.drop_zero, List.drop_succ_cons, List.take_succ_cons, List.take_zero] at g2_1
    obtain ⟨z1, q1, w1⟩ := leafy_int Tryz.underlying22 g2_0
    obtain rfl : c1 = _ := List.head_eq_of_cons_eq q1
    have b1 := bounds_u64 w1
    obtain ⟨x1, rfl⟩ := Int.eq_ofNat_of_zero_le b1.1
    obtain ⟨z2, q2, w2⟩ := leafy_int Tryz.underlying5 g2_1
    obtain rfl : c2 = _ := List.head_eq_of_cons_eq q2
    have b2 := bounds_u8 w2
    obtain ⟨x2, rfl⟩ := Int.eq_ofNat_of_zero_le b2.1
    obtain ⟨z3, q3, w3⟩ := leafy_int Tryz.underlying22 g1_2
    obtain rfl : c3 = _ := List.head_eq_of_cons_eq q3
    have b3 := bounds_u64 w3
    obtain ⟨x3, rfl⟩ := Int.eq_ofNat_of_zero_le b3.1
    obtain ⟨z4, q4, w4⟩ := leafy_int Tryz.underlying22 g1_3
    obtain rfl : c4 = _ := List.head_eq_of_cons_eq q4
    have b4 := bounds_u64 w4
    obtain ⟨x4, rfl⟩ := Int.eq_ofNat_of_zero_le b4.1
    obtain ⟨z5, q5, w5⟩ := leafy_int Tryz.underlying5 g1_4
    obtain rfl : c5 = _ := List.head_eq_of_cons_eq q5
    have b5 := bounds_u8 w5
    obtain ⟨x5, rfl⟩ := Int.eq_ofNat_of_zero_le b5.1
    obtain ⟨x6, q6, b6⟩ := leafy_string Tryz.underlying9 g1_5
    obtain rfl : c6 = _ := List.head_eq_of_cons_eq q6
    obtain ⟨A7, k7, V7, q7, r7, f7, n7⟩ := leafy_vos g1_6
    obtain rfl : c7 = _ := List.head_eq_of_cons_eq q7
    obtain ⟨A8, k8, V8, q8, r8, f8, n8⟩ := leafy_ims g1_7
    obtain rfl : c8 = _ := List.head_eq_of_cons_eq q8
    obtain ⟨m3, _, hf3⟩ := leafy_struct Tryz.underlying29 g1_8
    have g3_0 : Leafy Tryz.prog w m3 5 ((([c9, c10, c11, c12, c13, c14, c15] : List Value).drop 0).take (Tryz.prog.cellsOf 5)) := hf3 0 _ rfl
    rw [e8] at g3_0
    simp only [List.drop_zero, List.drop_succ_cons, List.take_succ_cons, List.take_zero] at g3_0
    have g3_1 : Leafy Tryz.prog w m3 27 ((([c9, c10, c11, c12, c13, c14, c15] : List Value).drop 1).take (Tryz.prog.cellsOf 27)) := hf3 1 _ rfl
    rw [e6] at g3_1
    simp only [List.drop_zero, List.drop_succ_cons, List.take_succ_cons, List.take_zero] at g3_1
    have g3_2 : Leafy Tryz.prog w m3 5 ((([c9, c10, c11, c12, c13, c14, c15] : List Value).drop 2).take (Tryz.prog.cellsOf 5)) := hf3 2 _ rfl
    rw [e8] at g3_2
    simp only [List.drop_zero, List.drop_succ_cons, List.take_succ_cons, List.take_zero] at g3_2
    have g3_3 : Leafy Tryz.prog w m3 9 ((([c9, c10, c11, c12, c13, c14, c15] : List Value).drop 3).take (Tryz.prog.cellsOf 9)) := hf3 3 _ rfl
    rw [e5] at g3_3
    simp only [List.drop_zero, List.drop_succ_cons, List.take_succ_cons, List.take_zero] at g3_3
    have g3_4 : Leafy Tryz.prog w m3 9 ((([c9, c10, c11, c12, c13, c14, c15] : List Value).drop 4).take (Tryz.prog.cellsOf 9)) := hf3 4 _ rfl
    rw [e5] at g3_4
    simp only [List.drop_zero, List.drop_succ_cons, List.take_succ_cons, List.take_zero] at g3_4
    have g3_5 : Leafy Tryz.prog w m3 9 ((([c9, c10, c11, c12, c13, c14, c15] : List Value).drop 5).take (Tryz.prog.cellsOf 9)) := hf3 5 _ rfl
    rw [e5] at g3_5
    simp only [List.drop_zero, List.drop_succ_cons, List.take_succ_cons, List.take_zero] at g3_5
    have g3_6 : Leafy Tryz.prog w m3 5 ((([c9, c10, c11, c12, c13, c14, c15] : List Value).drop 6).take (Tryz.prog.cellsOf 5)) := hf3 6 _ rfl
    rw [e8] at g3_6
    simp only [List.drop_zero, List.drop_succ_cons, List.take_succ_cons, List.take_zero] at g3_6
    obtain ⟨z9, q9, w9⟩ := leafy_int Tryz.underlying5 g3_0
    obtain rfl : c9 = _ := List.head_eq_of_cons_eq q9
    have b9 := bounds_u8 w9
    obtain ⟨x9, rfl⟩ := Int.eq_ofNat_of_zero_le b9.1
    obtain ⟨z10, q10, w10⟩ := leafy_int Tryz.underlying27 g3_1
    obtain rfl : c10 = _ := List.head_eq_of_cons_eq q10
    have b10 := bounds_u32 w10
    obtain ⟨x10, rfl⟩ := Int.eq_ofNat_of_zero_le b10.1
    obtain ⟨z11, q11, w11⟩ := leafy_int Tryz.underlying5 g3_2
    obtain rfl : c11 = _ := List.head_eq_of_cons_eq q11
    have b11 := bounds_u8 w11
    obtain ⟨x11, rfl⟩ := Int.eq_ofNat_of_zero_le b11.1
    obtain ⟨x12, q12, b12⟩ := leafy_string Tryz.underlying9 g3_3
    obtain rfl : c12 = _ := List.head_eq_of_cons_eq q12
    obtain ⟨x13, q13, b13⟩ := leafy_string Tryz.underlying9 g3_4
    obtain rfl : c13 = _ := List.head_eq_of_cons_eq q13
    obtain ⟨x14, q14, b14⟩ := leafy_string Tryz.underlying9 g3_5
    obtain rfl : c14 = _ := List.head_eq_of_cons_eq q14
    obtain ⟨z15, q15, w15⟩ := leafy_int Tryz.underlying5 g3_6
    obtain rfl : c15 = _ := List.head_eq_of_cons_eq q15
    have b15 := bounds_u8 w15
    obtain ⟨x15, rfl⟩ := Int.eq_ofNat_of_zero_le b15.1
    obtain ⟨m4, _, hf4⟩ := leafy_struct Tryz.underlying31 g1_9
    have g4_0 : Leafy Tryz.prog w m4 5 ((([c16, c17] : List Value).drop 0).take (Tryz.prog.cellsOf 5)) := hf4 0 _ rfl
    rw [e8] at g4_0
    simp only [List.drop_zero, List.drop_succ_cons, List.take_succ_cons, List.take_zero] at g4_0
    have g4_1 : Leafy Tryz.prog w m4 9 ((([c16, c17] : List Value).drop 1).take (Tryz.prog.cellsOf 9)) := hf4 1 _ rfl
    rw [e5] at g4_1
    simp only [List.drop_zero, List.drop_succ_cons, List.take_succ_cons, List.take_zero] at g4_1
    obtain ⟨z16, q16, w16⟩ := leafy_int Tryz.underlying5 g4_0
    obtain rfl : c16 = _ := List.head_eq_of_cons_eq q16
    have b16 := bounds_u8 w16
    obtain ⟨x16, rfl⟩ := Int.eq_ofNat_of_zero_le b16.1
    obtain ⟨x17, q17, b17⟩ := leafy_string Tryz.underlying9 g4_1
    obtain rfl : c17 = _ := List.head_eq_of_cons_eq q17
    exact ⟨⟨x0, x1, x2, x3, x4, x5, x6, V7, V8, ⟨x9, x10, x11, x12, x13, x14, x15⟩, x16, x17⟩, A7, k7, A8, k8, ⟨(show x0 < 256 by omega), (show x1 < 18446744073709551616 by omega), (show x2 < 256 by omega), (show x3 < 18446744073709551616 by omega), (show x4 < 18446744073709551616 by omega), (show x5 < 256 by omega), f7, f8, ⟨(show x9 < 256 by omega), (show x10 < 4294967296 by omega), (show x11 < 256 by omega), b12, b13, b14, (show x15 < 256 by omega)⟩, (show x16 < 256 by omega)⟩, ⟨r7, r8⟩, ⟨n7, n8⟩, rfl⟩

end Go.Proofs.YteiaiilfekojfaaGreat.Msg
end
section
set_option linter.unusedVariables false
set_option linter.unusedSimpArgs false
namespace Go.Proofs.YteiaiilfekojfaaGreat.Net
open Go.Joins Go.RowKit Go.WideShapes Go.ChangeShapes Go.Deep Msg Sx

structure Na where
  d : Nat
  f : Nat
  t : Nat
  k : Int
  m : Ms
  A : Option Addr
  ka : Nat
  B : Option Addr
  kb : Nat
def naL (x : Na) : List Value := .int .u8 (x.d : Int) :: .int .u8 (x.f : Int) :: .int .u8 (x.t : Int) :: .int .i64 x.k :: msL x.m (.slice x.A x.m.votes.length x.ka) (.slice x.B x.m.items.length x.kb)
structure Na.Ok (w : World) (x : Na) : Prop where
  d : x.d < 256
  f : x.f < 256
  t : x.t < 256
  k : -9223372036854775808 ≤ x.k ∧ x.k ≤ 9223372036854775807
  m : x.m.Fits
  r : MsRows w x.m x.A x.B
  n1 : x.m.votes.length ≤ 9223372036854775807
  n2 : x.m.items.length ≤ 9223372036854775807
theorem naL_len (x : Na) : (naL x).length = 22 := rfl
set_option maxRecDepth 100000 in
theorem dec_na {w : World} : ∀ n es, es.length = 22 → Leafy Tryz.prog w n 55 es → ∃ x : Na, x.Ok w ∧ es = naL x := by
  intro n es hlen h
  match es, hlen with
  | [c0, c1, c2, c3, c4, c5, c6, c7, c8, c9, c10, c11, c12, c13, c14, c15, c16, c17, c18, c19, c20, c21], _ =>
    have e0 : Tryz.prog.cellsOf 5 = 1 := by kernel_rfl
    have e1 : Tryz.prog.cellsOf 3 = 1 := by kernel_rfl
    have e2 : Tryz.prog.cellsOf 33 = 18 := by kernel_rfl
    obtain ⟨m1, _, hf⟩ := leafy_struct Tryz.underlying55 h
    have g0 : Leafy Tryz.prog w m1 5 ((([c0, c1, c2, c3, c4, c5, c6, c7, c8, c9, c10, c11, c12, c13, c14, c15, c16, c17, c18, c19, c20, c21] : List Value).drop 0).take (Tryz.prog.cellsOf 5)) := hf 0 _ rfl
    have g1 : Leafy Tryz.prog w m1 5 ((([c0, c1, c2, c3, c4, c5, c6, c7, c8, c9, c10, c11, c12, c13, c14, c15, c16, c17, c18, c19, c20, c21] : List Value).drop 1).take (Tryz.prog.cellsOf 5)) := hf 1 _ rfl
    have g2 : Leafy Tryz.prog w m1 5 ((([c0, c1, c2, c3, c4, c5, c6, c7, c8, c9, c10, c11, c12, c13, c14, c15, c16, c17, c18, c19, c20, c21] : List Value).drop 2).take (Tryz.prog.cellsOf 5)) := hf 2 _ rfl
    have g3 : Leafy Tryz.prog w m1 3 ((([c0, c1, c2, c3, c4, c5, c6, c7, c8, c9, c10, c11, c12, c13, c14, c15, c16, c17, c18, c19, c20, c21] : List Value).drop 3).take (Tryz.prog.cellsOf 3)) := hf 3 _ rfl
    have g4 : Leafy Tryz.prog w m1 33 ((([c0, c1, c2, c3, c4, c5, c6, c7, c8, c9, c10, c11, c12, c13, c14, c15, c16, c17, c18, c19, c20, c21] : List Value).drop 4).take (Tryz.prog.cellsOf 33)) := hf 4 _ rfl
    rw [e0] at g0 g1 g2
    rw [e1] at g3
    rw [e2] at g4
    simp only [List.drop_zero, List.drop_succ_cons, List.take_succ_cons, List.take_zero] at g0 g1 g2 g3 g4
    obtain ⟨z0, q0, w0⟩ := leafy_int Tryz.underlying5 g0
    obtain ⟨z1, q1, w1⟩ := leafy_int Tryz.underlying5 g1
    obtain ⟨z2, q2, w2⟩ := leafy_int Tryz.underlying5 g2
    obtain ⟨z3, q3, w3⟩ := leafy_int Tryz.underlying3 g3
    obtain ⟨m, A, ka, B, kb, h1, h2, h3, h4⟩ := dec_msg m1 _ rfl g4
    obtain rfl : c0 = _ := List.head_eq_of_cons_eq q0
    obtain rfl : c1 = _ := List.head_eq_of_cons_eq q1
    obtain rfl : c2 = _ := List.head_eq_of_cons_eq q2
    obtain rfl : c3 = _ := List.head_eq_of_cons_eq q3
    have b0 := bounds_u8 w0
    have b1 := bounds_u8 w1
    have b2 := bounds_u8 w2
    have b3 := bounds_i64 w3
    obtain ⟨x0, rfl⟩ := Int.eq_ofNat_of_zero_le b0.1
    obtain ⟨x1, rfl⟩ := Int.eq_ofNat_of_zero_le b1.1
    obtain ⟨x2, rfl⟩ := Int.eq_ofNat_of_zero_le b2.1
    refine ⟨⟨x0, x1, x2, z3, m, A, ka, B, kb⟩, ⟨(show x0 < 256 by omega), (show x1 < 256 by omega), (show x2 < 256 by omega), ⟨by dsimp only; omega, by dsimp only; omega⟩, h1, h2, h3.1, h3.2⟩, ?_⟩
    unfold naL
    dsimp only
    rw [← h4]
set_option maxRecDepth 100000 in
theorem open_nas {H : Type} {enc : TypeId × Value → H} {w : World} {base : Nat} {v : Value} {d : DataW H} {p : List MemPlace} {r : Reach} (h : DataW.Trod enc Tryz.prog w 0 (fun _ => true) true 47 v d p) (hk : Value.okWide Tryz.prog w r base 47 v) :
    ∃ (A : Option Addr) (c : Nat) (l : List Na), v = .slice A l.length c ∧ Rows w A 22 naL l ∧ (∀ x ∈ l, x.Ok w) ∧ l.length ≤ 9223372036854775807 :=
  open_rows Tryz.underlying47 (by kernel_rfl) (fun x => by rw [naL_len]; omega) dec_na h hk
def prL (p : Nat × Nat) : List Value := [.int .u8 (p.1 : Int), .int .u8 (p.2 : Int)]
theorem prL_len (p : Nat × Nat) : (prL p).length = 2 := rfl
end Go.Proofs.YteiaiilfekojfaaGreat.Net
end
section
set_option linter.unusedVariables false
set_option linter.unusedSimpArgs false
namespace Go.Proofs.YteiaiilfekojfaaGreat.Net
open Go.RowKit Sx Wire DrawInv
open Msg
theorem eq_pair_lit (a b c d : Nat) (w : World) : (Op.equal 57 (.agg #[.int .u8 (a : Int), .int .u8 (b : Int)]) (.agg #[.int .u8 (c : Int), .int .u8 (d : Int)])).run Tryz.prog w = .ok (decide ((a, b) = (c, d))) w := eq_pair (a, b) (c, d) w
theorem set_snocN (l : List Nat) (a b : Nat) : (l ++ [a]).set l.length b = l ++ [b] := by
  rw [List.set_append_right _ _ (Nat.le_refl _), Nat.sub_self]
  rfl
/-- What more has done up to k. -/
def moreK (ls : List Nat) (ps : List (Nat × Nat)) (p : Nat × Nat) (k : Nat) : List Nat := ls.mapIdx fun j v => if j < k ∧ prAt ps j = p ∧ 0 < v then v + 1 else v
theorem moreK_zero (ls : List Nat) (ps : List (Nat × Nat)) (p : Nat × Nat) : moreK ls ps p 0 = ls := by
  refine List.ext_getElem? fun i => ?_
  unfold moreK
  rw [List.getElem?_mapIdx]
  cases ls[i]? <;> simp
theorem moreK_len (ls : List Nat) (ps : List (Nat × Nat)) (p : Nat × Nat) (k : Nat) : (moreK ls ps p k).length = ls.length := List.length_mapIdx
theorem moreK_at {ls : List Nat} {k v : Nat} (ps : List (Nat × Nat)) (p : Nat × Nat) (h : ls[k]? = some v) : (moreK ls ps p k)[k]? = some v := by
  unfold moreK
  rw [List.getElem?_mapIdx, h]
  simp
theorem moreK_succ (ls : List Nat) (ps : List (Nat × Nat)) (p : Nat × Nat) (k v : Nat) (h : ls[k]? = some v) : moreK ls ps p (k + 1) = if prAt ps k = p ∧ 0 < v then (moreK ls ps p k).set k (v + 1) else moreK ls ps p k := by
  have hk := (List.getElem?_eq_some_iff.1 h).1
  refine List.ext_getElem? fun i => ?_
  by_cases e : i = k
  · subst e
    have h1 : (moreK ls ps p (i + 1))[i]? = some (if prAt ps i = p ∧ 0 < v then v + 1 else v) := by
      unfold moreK
      rw [List.getElem?_mapIdx, h]
      simp
    rw [h1]
    split
    · rw [List.getElem?_set_self (by rw [moreK_len]; exact hk)]
    · rw [moreK_at ps p h]
  · have h1 : (moreK ls ps p (k + 1))[i]? = (moreK ls ps p k)[i]? := by
      unfold moreK
      rw [List.getElem?_mapIdx, List.getElem?_mapIdx]
      cases ls[i]? with
      | none => rfl
      | some u =>
        have : (i < k + 1) ↔ i < k := by omega
        simp [this]
    rw [h1]
    split
    · rw [List.getElem?_set_ne (fun h => e h.symm)]
    · rfl
theorem moreK_all (ls : List Nat) (ps : List (Nat × Nat)) (p : Nat × Nat) : moreK ls ps p ls.length = moreL ls ps p := by
  refine List.ext_getElem? fun i => ?_
  unfold moreK moreL
  rw [List.getElem?_mapIdx, List.getElem?_mapIdx]
  cases h : ls[i]? with
  | none => rfl
  | some u =>
    have : i < ls.length := (List.getElem?_eq_some_iff.1 h).1
    simp [this]

set_option maxRecDepth 100000 in
set_option maxHeartbeats 4000000 in
theorem more_any (ls : List Nat) (ps : List (Nat × Nat)) (p q : Nat) (A A2 : Option Addr) (c c2 : Nat) (w : World) (hl : Rows w A 1 iL ls) (hp : Rows w A2 2 prL ps) (hle : ls.length ≤ 1000) (hpl : ps.length = ls.length) (hsm : ∀ v ∈ ls, v ≤ 1000) : Calls Tryz.prog 27 #[.slice A ls.length c, .slice A2 ps.length c2, .agg #[.int .u8 (p : Int), .int .u8 (q : Int)]] w fun e w' => ∃ v, e = .returned v ∧ w'.ownsRow w.heap.size 3 1 v (moreL ls ps (p, q)).length ((moreL ls ps (p, q)).flatMap iL) ∧ Below w.heap.size w w' := by
  have hnone := own_none w 0 0
  refine sx_enter (n := 37) _ Tryz.func27 rfl rfl rfl (Hp.start w) ?_
  refine SxC.seq (SxC.region ?_)
  refine SxL.new (cs := [.int .u8 (p : Int), .int .u8 (q : Int)]) trivial rfl rfl (fun ρ w E H => ex_box E rfl rfl rfl) fun g1 hg1 => ?_
  refine SxL.val trivial rfl rfl (fun ρ w E H => ex_assign E rfl rfl) ?_
  refine SxL.nil (SxN.then_ (SxC.seq ?_))
  refine SxC.hp (fun W H => H.nilRow 3 1) ?_
  refine SxC.region ?_
  refine SxL.val trivial rfl rfl (fun ρ w E H => ex_move E rfl rfl) ?_
  refine SxL.append (i := 0) (news := ls.flatMap iL) trivial rfl rfl rfl Tryz.underlying50 nf_int rfl rfl rfl rfl hnone rfl (fun W H => ⟨_, rows_reads iL_len (by decide) (hl.below (H.toBelow ⟨hnone.fresh, (fun g hg => by rw [List.mem_singleton.1 hg]; exact hg1), trivial⟩))⟩) (Sx.flat_one iL_one _) (by unfold maxLen; omega) (by omega) (Nat.le_refl _) fun A10 k10 hv10 => ?_
  refine SxL.val trivial rfl rfl (fun ρ w E H => ex_assign E rfl rfl) ?_
  refine SxL.nil (SxN.then_ (SxC.seq (SxC.seq (SxC.region ?_))))
  refine SxL.val trivial rfl rfl (fun ρ w E H => ex_assign E rfl rfl) ?_
  refine SxL.nil (SxN.then_ (SxC.block ?_))
  refine SxC.hp (fun W H => H.re (i := 0) rfl (rowX [] w.heap.size 3 1 (.slice A10 (0 + ls.length) k10) ((moreK ls ps (p, q) 0).length) ((moreK ls ps (p, q) 0).flatMap iL)) (rowX_loc _ _ _ _ _ _ _) rfl (fun h => own_as h (by rw [moreK_len]; omega) (by rw [moreK_zero]; rfl))) ?_
  refine SxC.with (p := True) (fun _ _ => trivial) fun _ => ?_
  refine SxC.loop2 (fun (k : Nat) (vL : Value) => [(0, .slice A ls.length c), (1, .slice A2 ps.length c2), (5, .pointer (some ⟨g1, 0, none⟩)), (7, vL), (8, .int .i64 (k : Int))]) (fun (k : Nat) (vL : Value) => [rowX [] w.heap.size 3 1 vL ((moreK ls ps (p, q) k).length) ((moreK ls ps (p, q) k).flatMap iL), cell g1 57 [.int .u8 (p : Int), .int .u8 (q : Int)]]) (fun (gk : Nat) (k : Nat) (vL : Value) => k + gk = ls.length ∧ OwnIn w [] vL) ls.length 0 (.slice A10 (0 + ls.length) k10) ⟨by omega, hv10⟩ ⟨rfl, rfl, rfl, rfl, rfl, trivial⟩ [0, 1] rfl (by decide) ⟨.inl rfl, .inl rfl, trivial⟩ fun gk k vL hF => ?_
  obtain ⟨hkg, hvL⟩ := hF
  refine SxC.seq (SxC.seq ?_)
  refine SxC.with (fun W H => own_is_slice (H.get (i := 0) rfl)) ?_
  rintro ⟨AL, cL, rfl⟩
  refine SxC.region ?_
  iterate 2 refine SxL.val trivial rfl rfl (fun ρ w E H => ex_move E rfl rfl) ?_
  refine SxL.val (v := .int .i64 ((moreK ls ps (p, q) k).length : Int)) trivial rfl rfl (fun ρ w E H => ex_lenS E rfl Tryz.underlying50 rfl) ?_
  refine SxL.valB trivial rfl rfl (fun ρ w E H => ex_cmp E rfl rfl rfl rfl rfl) fun c14 hc14 => ?_
  refine SxL.nil (SxN.then_ ?_)
  cases c14
  · refine SxC.condF rfl (SxC.exit (SxX.thenE (SxX.thenE (SxX.blockE (SxN.then_ (SxC.seq (SxC.region ?_)))))))
    refine SxL.val trivial rfl rfl (fun ρ w E H => ex_move E rfl rfl) ?_
    refine SxL.val trivial rfl rfl (fun ρ w E H => ex_assign E rfl rfl) ?_
    refine SxL.nil (SxN.then_ (SxC.ret ?_))
    refine SxX.done (.slice AL ((moreK ls ps (p, q) k).length) cL) (fun a w K H => res1 K rfl rfl) (fun w H => ?_)
    have hke : k = ls.length := by have h := hc14; simp only [cmpB, moreK_len] at h; simp at h; omega
    subst hke
    exact ⟨_, rfl, own_as (H.get (i := 0) rfl) (by rw [moreK_all]) (by rw [moreK_all]), H.toBelow ⟨hvL.fresh, (fun g hg => by rw [List.mem_singleton.1 hg]; exact hg1), trivial⟩⟩
  · refine SxC.condT rfl (SxC.skip (SxN.then_ (SxC.seq (SxC.block (SxC.seq ?_)))))
    have hkl : k < ls.length := by have h := hc14; simp only [cmpB, moreK_len] at h; simpa using h
    obtain ⟨v, hv⟩ : ∃ x, ls[k]? = some x := ⟨_, List.getElem?_eq_getElem hkl⟩
    have hvm := moreK_at ps (p, q) hv
    have hv2 := hsm v (List.mem_of_getElem? hv)
    obtain ⟨⟨pa, pb⟩, hx⟩ : ∃ x, ps[k]? = some x := ⟨_, List.getElem?_eq_getElem (by omega)⟩
    obtain ⟨a2, rfl, -, -⟩ := hp.row hx
    have hpr : prAt ps k = (pa, pb) := by unfold prAt; rw [hx]; rfl
    have hkm : k < (moreK ls ps (p, q) k).length := by rw [moreK_len]; exact hkl
    have hsu := moreK_succ ls ps (p, q) k v hv
    rw [hpr] at hsu
    refine SxC.with (fun W H => own_some (H.get (i := 0) rfl) (by omega)) ?_
    rintro ⟨gl, rfl⟩
    refine SxC.drawnK [] [0, 1] (by kernel_rfl) rfl ⟨(fun g hg => .inr (hvL.fresh g hg)), (fun g hg => by rw [List.mem_singleton.1 hg]; exact .inr hg1), trivial⟩ ?_
    refine SxA.take (i := 0) rfl (by kernel_rfl) (by kernel_rfl) (by kernel_rfl) rfl rfl (fun _ _ _ h => h) trivial (fun ρ w E H => ex_move E rfl rfl) ?_
    refine SxA.take (i := 1) rfl (by kernel_rfl) (by kernel_rfl) (by kernel_rfl) rfl rfl (fun _ _ _ h => h) trivial (fun ρ w E H => ex_move E rfl rfl) ?_
    refine SxA.take (i := 2) (v := .pointer (some (a2.add (k * 2)))) rfl (by kernel_rfl) (by kernel_rfl) (by kernel_rfl) rfl rfl (fun _ _ _ h => h) trivial (fun ρ w E H => ex_index (i := k) E rfl Tryz.underlying51 sz_palaver_net_Pair rfl rfl (by omega)) ?_
    refine SxA.take (i := 3) (v := .agg #[.int .u8 (pa : Int), .int .u8 (pb : Int)]) rfl (by kernel_rfl) (by kernel_rfl) (by kernel_rfl) rfl rfl (fun _ _ _ h => h) trivial (fun ρ w E H => ex_loadX (cs := [.int .u8 (pa : Int), .int .u8 (pb : Int)]) E ((hp.below (H.os.below (Nat.le_refl _) (by simp))).rowA hx) rfl rfl Tryz.underlying57 rfl sz_palaver_net_Pair) ?_
    refine SxA.take (i := 4) rfl (by kernel_rfl) (by kernel_rfl) (by kernel_rfl) rfl rfl (fun _ _ _ h => h) trivial (fun ρ w E H => ex_load (part := [.int .u8 (p : Int), .int .u8 (q : Int)]) E (H.get (i := 1) rfl) rfl rfl Tryz.underlying57 rfl sz_palaver_net_Pair rfl rfl) ?_
    refine SxA.takeB (i := 5) rfl (by kernel_rfl) (by kernel_rfl) (by kernel_rfl) rfl rfl (fun _ _ _ h => h) trivial (fun ρ w E H => ex_aeql E rfl (by kernel_rfl) rfl rfl (fun w => eq_pair_lit pa pb p q w)) fun c22 hc22 => ?_
    refine SxA.take (i := 6) rfl (by kernel_rfl) (by kernel_rfl) (by kernel_rfl) rfl rfl (fun _ _ _ h => h) trivial (fun ρ w E H => ex_move E rfl rfl) ?_
    cases c22
    · refine SxA.takeOff (i := 7) rfl (by kernel_rfl) (by kernel_rfl) (by kernel_rfl) rfl rfl (fun _ _ _ h => h) ⟨_, _, _, rfl, rfl, rfl, nofun⟩ ?_
      refine SxA.takeOff (i := 8) rfl (by kernel_rfl) (by kernel_rfl) (by kernel_rfl) rfl rfl (fun _ _ _ h => h) ⟨_, _, _, rfl, rfl, rfl, nofun⟩ ?_
      refine SxA.takeOff (i := 9) rfl (by kernel_rfl) (by kernel_rfl) (by kernel_rfl) rfl rfl (fun _ _ _ h => h) ⟨_, _, _, rfl, rfl, rfl, nofun⟩ ?_
      refine SxA.takeOff (i := 10) rfl (by kernel_rfl) (by kernel_rfl) (by kernel_rfl) rfl rfl (fun _ _ _ h => h) ⟨_, _, _, rfl, rfl, rfl, nofun⟩ ?_
      refine SxA.takeOff (i := 11) rfl (by kernel_rfl) (by kernel_rfl) (by kernel_rfl) rfl rfl (fun _ _ _ h => h) ⟨_, _, _, rfl, rfl, rfl, nofun⟩ ?_
      refine SxA.take (i := 12) rfl (by kernel_rfl) (by kernel_rfl) (by kernel_rfl) rfl rfl (fun _ _ _ h => h) trivial (fun ρ w E H => ex_pick E rfl (t := false) rfl rfl) ?_
      refine SxA.done (by kernel_rfl) ?_
      refine SxN.then_ (SxC.condF rfl (SxC.skip (SxN.block (SxN.then_ ?_))))
      rw [if_neg (fun h => by have h2 := hc22; simp at h2; have h3 := h.1; simp at h3; exact h2 h3.1 h3.2)] at hsu
      refine SxC.hp (fun W H => H.re (i := 0) rfl (rowX [] w.heap.size 3 1 (.slice (some ⟨gl, 0, none⟩) ((moreK ls ps (p, q) k).length) cL) ((moreK ls ps (p, q) (k + 1)).length) ((moreK ls ps (p, q) (k + 1)).flatMap iL)) (rowX_loc _ _ _ _ _ _ _) rfl (fun h => own_as h (by rw [hsu]) (by rw [hsu]))) ?_
      refine SxC.region ?_
      refine SxL.val trivial rfl rfl (fun ρ w E H => ex_move E rfl rfl) ?_
      refine SxL.val (v := .int .i64 ((k + 1 : Nat) : Int)) trivial rfl rfl (fun ρ w E H => ex_add E rfl rfl rfl (by rw [IntKind.wrap_i64]; omega)) ?_
      refine SxL.val trivial rfl rfl (fun ρ w E H => ex_assign E rfl rfl) ?_
      refine SxL.nil ?_
      refine SxN.back (gk - 1) (k + 1, (.slice (some ⟨gl, 0, none⟩) ((moreK ls ps (p, q) k).length) cL)) (by omega) ⟨by omega, hvL⟩ ⟨rfl, rfl, rfl, rfl, rfl, trivial⟩ [0, 1] rfl (by decide) ⟨.inl rfl, .inl rfl, trivial⟩
    · refine SxA.take (i := 7) rfl (by kernel_rfl) (by kernel_rfl) (by kernel_rfl) rfl rfl (fun _ _ _ h => h) ⟨_, _, rfl, rfl, rfl⟩ (fun ρ w E H => ex_move E rfl rfl) ?_
      refine SxA.take (i := 8) rfl (by kernel_rfl) (by kernel_rfl) (by kernel_rfl) rfl rfl (fun _ _ _ h => h) ⟨_, _, rfl, rfl, rfl⟩ (fun ρ w E H => ex_move E rfl rfl) ?_
      refine SxA.take (i := 9) (v := .pointer (some ((⟨gl, 0, none⟩ : Addr).add (k * 1)))) rfl (by kernel_rfl) (by kernel_rfl) (by kernel_rfl) rfl rfl (fun _ _ _ h => h) ⟨_, _, rfl, rfl, rfl⟩ (fun ρ w E H => ex_index (i := k) E rfl Tryz.underlying50 sz_int rfl rfl hkm) ?_
      refine SxA.take (i := 10) (v := .int .i64 (v : Int)) rfl (by kernel_rfl) (by kernel_rfl) (by kernel_rfl) rfl rfl (fun _ _ _ h => h) ⟨_, _, rfl, rfl, rfl⟩ (fun ρ w E H => ex_loadX0 E ((own_readE iL_len (by decide) (H.get (i := 0) rfl)).rowA hvm) rfl rfl rfl Tryz.underlying3 rfl) ?_
      refine SxA.takeB (i := 11) rfl (by kernel_rfl) (by kernel_rfl) (by kernel_rfl) rfl rfl (fun _ _ _ h => h) ⟨_, _, rfl, rfl, rfl⟩ (fun ρ w E H => ex_cmp E rfl rfl rfl rfl rfl) fun c28 hc28 => ?_
      refine SxA.take (i := 12) rfl (by kernel_rfl) (by kernel_rfl) (by kernel_rfl) rfl rfl (fun _ _ _ h => h) trivial (fun ρ w E H => ex_pick E rfl (t := true) rfl rfl) ?_
      refine SxA.done (by kernel_rfl) ?_
      refine SxN.then_ ?_
      cases c28
      · refine SxC.condF rfl (SxC.skip (SxN.block (SxN.then_ ?_)))
        rw [if_neg (fun h => by have h2 := hc28; simp [cmpB] at h2; omega)] at hsu
        refine SxC.hp (fun W H => H.re (i := 0) rfl (rowX [] w.heap.size 3 1 (.slice (some ⟨gl, 0, none⟩) ((moreK ls ps (p, q) k).length) cL) ((moreK ls ps (p, q) (k + 1)).length) ((moreK ls ps (p, q) (k + 1)).flatMap iL)) (rowX_loc _ _ _ _ _ _ _) rfl (fun h => own_as h (by rw [hsu]) (by rw [hsu]))) ?_
        refine SxC.region ?_
        refine SxL.val trivial rfl rfl (fun ρ w E H => ex_move E rfl rfl) ?_
        refine SxL.val (v := .int .i64 ((k + 1 : Nat) : Int)) trivial rfl rfl (fun ρ w E H => ex_add E rfl rfl rfl (by rw [IntKind.wrap_i64]; omega)) ?_
        refine SxL.val trivial rfl rfl (fun ρ w E H => ex_assign E rfl rfl) ?_
        refine SxL.nil ?_
        refine SxN.back (gk - 1) (k + 1, (.slice (some ⟨gl, 0, none⟩) ((moreK ls ps (p, q) k).length) cL)) (by omega) ⟨by omega, hvL⟩ ⟨rfl, rfl, rfl, rfl, rfl, trivial⟩ [0, 1] rfl (by decide) ⟨.inl rfl, .inl rfl, trivial⟩
      · refine SxC.condT rfl (SxC.region ?_)
        iterate 2 refine SxL.val trivial rfl rfl (fun ρ w E H => ex_move E rfl rfl) ?_
        refine SxL.val (v := .pointer (some ((⟨gl, 0, none⟩ : Addr).add (k * 1)))) trivial rfl rfl (fun ρ w E H => ex_index (i := k) E rfl Tryz.underlying50 sz_int rfl rfl hkm) ?_
        refine SxL.val (v := .int .i64 (v : Int)) trivial rfl rfl (fun ρ w E H => ex_loadX0 E ((own_readE iL_len (by decide) (H.get (i := 0) rfl)).rowA hvm) rfl rfl rfl Tryz.underlying3 rfl) ?_
        refine SxL.val (v := .int .i64 ((v + 1 : Nat) : Int)) trivial rfl rfl (fun ρ w E H => ex_add E rfl rfl rfl (by rw [IntKind.wrap_i64]; omega)) ?_
        refine SxL.val (v := .pointer (some ((⟨gl, 0, none⟩ : Addr).add (k * 1)))) trivial rfl rfl (fun ρ w E H => ex_index (i := k) E rfl Tryz.underlying50 sz_int rfl rfl hkm) ?_
        refine SxL.skipG _ trivial rfl (fun ρ w E H => Hp.storeEl (cells := iL) (l := (moreK ls ps (p, q) k)) (y := (v + 1)) (k := k) (i := 0) iL_len E H rfl rfl rfl rfl hkm sz_int rfl rfl) ?_
        refine SxL.nil (SxN.block (SxN.then_ ?_))
        rw [if_pos ⟨by simpa using hc22, by have h := hc28; simp [cmpB] at h; omega⟩] at hsu
        refine SxC.hp (fun W H => H.re (i := 0) rfl (rowX [] w.heap.size 3 1 (.slice (some ⟨gl, 0, none⟩) ((moreK ls ps (p, q) k).length) cL) ((moreK ls ps (p, q) (k + 1)).length) ((moreK ls ps (p, q) (k + 1)).flatMap iL)) (rowX_loc _ _ _ _ _ _ _) rfl (fun h => own_as h (by rw [hsu]) (by rw [hsu]))) ?_
        refine SxC.region ?_
        refine SxL.val trivial rfl rfl (fun ρ w E H => ex_move E rfl rfl) ?_
        refine SxL.val (v := .int .i64 ((k + 1 : Nat) : Int)) trivial rfl rfl (fun ρ w E H => ex_add E rfl rfl rfl (by rw [IntKind.wrap_i64]; omega)) ?_
        refine SxL.val trivial rfl rfl (fun ρ w E H => ex_assign E rfl rfl) ?_
        refine SxL.nil ?_
        refine SxN.back (gk - 1) (k + 1, (.slice (some ⟨gl, 0, none⟩) ((moreK ls ps (p, q) k).length) cL)) (by omega) ⟨by omega, hvL⟩ ⟨rfl, rfl, rfl, rfl, rfl, trivial⟩ [0, 1] rfl (by decide) ⟨.inl rfl, .inl rfl, trivial⟩
end Go.Proofs.YteiaiilfekojfaaGreat.Net
end
section
set_option linter.unusedVariables false
set_option linter.unusedSimpArgs false
namespace Go.Proofs.YteiaiilfekojfaaGreat.Msg
open Go.RowKit Sx Wire DrawInv
set_option maxRecDepth 100000 in
set_option maxHeartbeats 4000000 in
theorem rsame_lit (mk mn mr mb ms mo ca cb ck cz mc : Nat) (mv cs ct cu mt : List UInt8) (vl : List Vo) (il : List Im)(xk xn xr xb xs xo da db dk dz xc : Nat) (xv ds dt du xt : List UInt8) (wl : List Vo) (jl : List Im) (A B : Option Addr) (ka kb : Nat) (C D : Option Addr) (kc kd : Nat) (w : World) (hv : Rows w A 4 voL vl) (hi : Rows w B 2 imL il) (hv2 : Rows w C 4 voL wl) (hi2 : Rows w D 2 imL jl) (hl1 : vl.length ≤ 1000000) (hl2 : il.length ≤ 1000000) : Calls Tryz.prog 14 #[.agg #[.int .u8 (mk : Int), .int .u64 (mn : Int), .int .u8 (mr : Int), .int .u64 (mb : Int), .int .u64 (ms : Int), .int .u8 (mo : Int), .string ⟨mv.toArray⟩, .slice A vl.length ka, .slice B il.length kb, .int .u8 (ca : Int), .int .u32 (cb : Int), .int .u8 (ck : Int), .string ⟨cs.toArray⟩, .string ⟨ct.toArray⟩, .string ⟨cu.toArray⟩, .int .u8 (cz : Int), .int .u8 (mc : Int), .string ⟨mt.toArray⟩], .agg #[.int .u8 (xk : Int), .int .u64 (xn : Int), .int .u8 (xr : Int), .int .u64 (xb : Int), .int .u64 (xs : Int), .int .u8 (xo : Int), .string ⟨xv.toArray⟩, .slice C wl.length kc, .slice D jl.length kd, .int .u8 (da : Int), .int .u32 (db : Int), .int .u8 (dk : Int), .string ⟨ds.toArray⟩, .string ⟨dt.toArray⟩, .string ⟨du.toArray⟩, .int .u8 (dz : Int), .int .u8 (xc : Int), .string ⟨xt.toArray⟩]] w fun e w' => e = .returned (.bool (decide ((⟨mk, mn, mr, mb, ms, mo, mv, vl, il, ⟨ca, cb, ck, cs, ct, cu, cz⟩, mc, mt⟩ : Ms) = ⟨xk, xn, xr, xb, xs, xo, xv, wl, jl, ⟨da, db, dk, ds, dt, du, dz⟩, xc, xt⟩))) ∧ Below w.heap.size w w' := by
  refine sx_enter (n := 113) _ Tryz.func14 rfl rfl rfl (Hp.start w) ?_
  refine SxC.seq (SxC.region ?_)
  refine SxL.new (cs := [.int .u8 (mk : Int), .int .u64 (mn : Int), .int .u8 (mr : Int), .int .u64 (mb : Int), .int .u64 (ms : Int), .int .u8 (mo : Int), .string ⟨mv.toArray⟩, .slice A vl.length ka, .slice B il.length kb, .int .u8 (ca : Int), .int .u32 (cb : Int), .int .u8 (ck : Int), .string ⟨cs.toArray⟩, .string ⟨ct.toArray⟩, .string ⟨cu.toArray⟩, .int .u8 (cz : Int), .int .u8 (mc : Int), .string ⟨mt.toArray⟩]) trivial rfl rfl (fun ρ w E H => ex_box E rfl rfl rfl) fun g1 hg1 => ?_
  refine SxL.new (cs := [.int .u8 (xk : Int), .int .u64 (xn : Int), .int .u8 (xr : Int), .int .u64 (xb : Int), .int .u64 (xs : Int), .int .u8 (xo : Int), .string ⟨xv.toArray⟩, .slice C wl.length kc, .slice D jl.length kd, .int .u8 (da : Int), .int .u32 (db : Int), .int .u8 (dk : Int), .string ⟨ds.toArray⟩, .string ⟨dt.toArray⟩, .string ⟨du.toArray⟩, .int .u8 (dz : Int), .int .u8 (xc : Int), .string ⟨xt.toArray⟩]) trivial rfl rfl (fun ρ w E H => ex_box E rfl rfl rfl) fun g2 hg2 => ?_
  refine SxL.val trivial rfl rfl (fun ρ w E H => ex_assign E rfl rfl) ?_
  refine SxL.nil (SxN.then_ (SxC.seq (SxC.seq (SxC.region ?_))))
  refine SxL.val (v := .pointer (some ⟨g1, 7, none⟩)) trivial rfl rfl (fun ρ w E H => ex_field E rfl fa_palaver_api_Msg_6 rfl rfl) ?_
  refine SxL.val trivial rfl rfl (fun ρ w E H => ex_load1 E (H.get (i := 1) rfl) rfl rfl Tryz.underlying25 rfl rfl) ?_
  refine SxL.val (v := .int .i64 (vl.length : Int)) trivial rfl rfl (fun ρ w E H => ex_lenS E rfl Tryz.underlying25 rfl) ?_
  refine SxL.val (v := .pointer (some ⟨g2, 7, none⟩)) trivial rfl rfl (fun ρ w E H => ex_field E rfl fa_palaver_api_Msg_6 rfl rfl) ?_
  refine SxL.val trivial rfl rfl (fun ρ w E H => ex_load1 E (H.get (i := 0) rfl) rfl rfl Tryz.underlying25 rfl rfl) ?_
  refine SxL.val (v := .int .i64 (wl.length : Int)) trivial rfl rfl (fun ρ w E H => ex_lenS E rfl Tryz.underlying25 rfl) ?_
  refine SxL.valB trivial rfl rfl (fun ρ w E H => ex_cmp E rfl rfl rfl rfl rfl) fun c13 hc13 => ?_
  refine SxL.val trivial rfl rfl (fun ρ w E H => ex_move E rfl rfl) ?_
  cases c13
  · refine SxL.val (v := .pointer (some ⟨g1, 8, none⟩)) ⟨_, _, rfl, rfl, rfl⟩ rfl rfl (fun ρ w E H => ex_field E rfl fa_palaver_api_Msg_7 rfl rfl) ?_
    refine SxL.val ⟨_, _, rfl, rfl, rfl⟩ rfl rfl (fun ρ w E H => ex_load1 E (H.get (i := 1) rfl) rfl rfl Tryz.underlying26 rfl rfl) ?_
    refine SxL.val (v := .int .i64 (il.length : Int)) ⟨_, _, rfl, rfl, rfl⟩ rfl rfl (fun ρ w E H => ex_lenS E rfl Tryz.underlying26 rfl) ?_
    refine SxL.val (v := .pointer (some ⟨g2, 8, none⟩)) ⟨_, _, rfl, rfl, rfl⟩ rfl rfl (fun ρ w E H => ex_field E rfl fa_palaver_api_Msg_7 rfl rfl) ?_
    refine SxL.val ⟨_, _, rfl, rfl, rfl⟩ rfl rfl (fun ρ w E H => ex_load1 E (H.get (i := 0) rfl) rfl rfl Tryz.underlying26 rfl rfl) ?_
    refine SxL.val (v := .int .i64 (jl.length : Int)) ⟨_, _, rfl, rfl, rfl⟩ rfl rfl (fun ρ w E H => ex_lenS E rfl Tryz.underlying26 rfl) ?_
    refine SxL.valB ⟨_, _, rfl, rfl, rfl⟩ rfl rfl (fun ρ w E H => ex_cmp E rfl rfl rfl rfl rfl) fun c21 hc21 => ?_
    refine SxL.val trivial rfl rfl (fun ρ w E H => ex_pick E rfl (t := false) rfl rfl) ?_
    refine SxL.nil (SxN.then_ ?_)
    cases c21
    · refine SxC.condF rfl (SxC.skip (SxN.then_ (SxC.seq (SxC.seq (SxC.region ?_)))))
      refine SxL.val trivial rfl rfl (fun ρ w E H => ex_assign E rfl rfl) ?_
      refine SxL.nil (SxN.then_ (SxC.block ?_))
      refine SxC.loop1 (fun (k : Nat) => [(2, .pointer (some ⟨g1, 0, none⟩)), (3, .pointer (some ⟨g2, 0, none⟩)), (5, .int .i64 (k : Int))]) (fun (k : Nat) => [cell g2 33 [.int .u8 (xk : Int), .int .u64 (xn : Int), .int .u8 (xr : Int), .int .u64 (xb : Int), .int .u64 (xs : Int), .int .u8 (xo : Int), .string ⟨xv.toArray⟩, .slice C wl.length kc, .slice D jl.length kd, .int .u8 (da : Int), .int .u32 (db : Int), .int .u8 (dk : Int), .string ⟨ds.toArray⟩, .string ⟨dt.toArray⟩, .string ⟨du.toArray⟩, .int .u8 (dz : Int), .int .u8 (xc : Int), .string ⟨xt.toArray⟩], cell g1 33 [.int .u8 (mk : Int), .int .u64 (mn : Int), .int .u8 (mr : Int), .int .u64 (mb : Int), .int .u64 (ms : Int), .int .u8 (mo : Int), .string ⟨mv.toArray⟩, .slice A vl.length ka, .slice B il.length kb, .int .u8 (ca : Int), .int .u32 (cb : Int), .int .u8 (ck : Int), .string ⟨cs.toArray⟩, .string ⟨ct.toArray⟩, .string ⟨cu.toArray⟩, .int .u8 (cz : Int), .int .u8 (mc : Int), .string ⟨mt.toArray⟩]]) (fun (gk : Nat) (k : Nat) => k + gk = vl.length ∧ vl.take k = wl.take k ∧ vl.length = wl.length) vl.length 0 ⟨by omega, rfl, by have h := hc13; simp [cmpB] at h; omega⟩ ⟨rfl, rfl, rfl, trivial⟩ [0, 1] rfl (by decide) ⟨.inl rfl, .inl rfl, trivial⟩ fun gk k hF => ?_
      obtain ⟨hkg, hrel, hle⟩ := hF
      refine SxC.seq (SxC.seq (SxC.region ?_))
      refine SxL.val trivial rfl rfl (fun ρ w E H => ex_move E rfl rfl) ?_
      refine SxL.val (v := .pointer (some ⟨g1, 7, none⟩)) trivial rfl rfl (fun ρ w E H => ex_field E rfl fa_palaver_api_Msg_6 rfl rfl) ?_
      refine SxL.val trivial rfl rfl (fun ρ w E H => ex_load1 E (H.get (i := 1) rfl) rfl rfl Tryz.underlying25 rfl rfl) ?_
      refine SxL.val (v := .int .i64 (vl.length : Int)) trivial rfl rfl (fun ρ w E H => ex_lenS E rfl Tryz.underlying25 rfl) ?_
      refine SxL.valB trivial rfl rfl (fun ρ w E H => ex_cmp E rfl rfl rfl rfl rfl) fun c27 hc27 => ?_
      refine SxL.nil (SxN.then_ ?_)
      cases c27
      · refine SxC.condF rfl (SxC.exit (SxX.thenE (SxX.thenE (SxX.blockE (SxN.then_ (SxC.seq (SxC.seq ?_)))))))
        have hV : vl = wl := by have h := hc27; simp [cmpB] at h; rw [List.take_of_length_le (by omega), List.take_of_length_le (by omega)] at hrel; exact hrel
        refine SxC.region ?_
        refine SxL.val trivial rfl rfl (fun ρ w E H => ex_assign E rfl rfl) ?_
        refine SxL.nil (SxN.then_ (SxC.block ?_))
        refine SxC.loop1 (fun (k : Nat) => [(2, .pointer (some ⟨g1, 0, none⟩)), (3, .pointer (some ⟨g2, 0, none⟩)), (6, .int .i64 (k : Int))]) (fun (k : Nat) => [cell g2 33 [.int .u8 (xk : Int), .int .u64 (xn : Int), .int .u8 (xr : Int), .int .u64 (xb : Int), .int .u64 (xs : Int), .int .u8 (xo : Int), .string ⟨xv.toArray⟩, .slice C wl.length kc, .slice D jl.length kd, .int .u8 (da : Int), .int .u32 (db : Int), .int .u8 (dk : Int), .string ⟨ds.toArray⟩, .string ⟨dt.toArray⟩, .string ⟨du.toArray⟩, .int .u8 (dz : Int), .int .u8 (xc : Int), .string ⟨xt.toArray⟩], cell g1 33 [.int .u8 (mk : Int), .int .u64 (mn : Int), .int .u8 (mr : Int), .int .u64 (mb : Int), .int .u64 (ms : Int), .int .u8 (mo : Int), .string ⟨mv.toArray⟩, .slice A vl.length ka, .slice B il.length kb, .int .u8 (ca : Int), .int .u32 (cb : Int), .int .u8 (ck : Int), .string ⟨cs.toArray⟩, .string ⟨ct.toArray⟩, .string ⟨cu.toArray⟩, .int .u8 (cz : Int), .int .u8 (mc : Int), .string ⟨mt.toArray⟩]]) (fun (gk : Nat) (k : Nat) => k + gk = il.length ∧ il.take k = jl.take k ∧ il.length = jl.length) il.length 0 ⟨by omega, rfl, by have h := hc21; simp [cmpB] at h; omega⟩ ⟨rfl, rfl, rfl, trivial⟩ [0, 1] rfl (by decide) ⟨.inl rfl, .inl rfl, trivial⟩ fun gk k hF => ?_
        obtain ⟨hkg, hrel, hle⟩ := hF
        refine SxC.seq (SxC.seq (SxC.region ?_))
        refine SxL.val trivial rfl rfl (fun ρ w E H => ex_move E rfl rfl) ?_
        refine SxL.val (v := .pointer (some ⟨g1, 8, none⟩)) trivial rfl rfl (fun ρ w E H => ex_field E rfl fa_palaver_api_Msg_7 rfl rfl) ?_
        refine SxL.val trivial rfl rfl (fun ρ w E H => ex_load1 E (H.get (i := 1) rfl) rfl rfl Tryz.underlying26 rfl rfl) ?_
        refine SxL.val (v := .int .i64 (il.length : Int)) trivial rfl rfl (fun ρ w E H => ex_lenS E rfl Tryz.underlying26 rfl) ?_
        refine SxL.valB trivial rfl rfl (fun ρ w E H => ex_cmp E rfl rfl rfl rfl rfl) fun c45 hc45 => ?_
        refine SxL.nil (SxN.then_ ?_)
        cases c45
        · refine SxC.condF rfl (SxC.exit (SxX.thenE (SxX.thenE (SxX.blockE (SxN.then_ (SxC.seq ?_))))))
          have hI : il = jl := by have h := hc45; simp [cmpB] at h; rw [List.take_of_length_le (by omega), List.take_of_length_le (by omega)] at hrel; exact hrel
          refine SxC.region ?_
          refine SxL.val (v := .pointer (some ⟨g1, 0, none⟩)) trivial rfl rfl (fun ρ w E H => ex_field E rfl fa_palaver_api_Msg_0 rfl rfl) ?_
          refine SxL.val trivial rfl rfl (fun ρ w E H => ex_load1 E (H.get (i := 1) rfl) rfl rfl Tryz.underlying5 rfl rfl) ?_
          refine SxL.val (v := .pointer (some ⟨g2, 0, none⟩)) trivial rfl rfl (fun ρ w E H => ex_field E rfl fa_palaver_api_Msg_0 rfl rfl) ?_
          refine SxL.val trivial rfl rfl (fun ρ w E H => ex_load1 E (H.get (i := 0) rfl) rfl rfl Tryz.underlying5 rfl rfl) ?_
          refine SxL.valB trivial rfl rfl (fun ρ w E H => ex_cmp E rfl rfl rfl rfl rfl) fun c63 hc63 => ?_
          refine SxL.val trivial rfl rfl (fun ρ w E H => ex_move E rfl rfl) ?_
          cases c63
          · refine SxL.off ⟨_, _, _, rfl, rfl, rfl, nofun⟩ rfl rfl ?_
            iterate 4 refine SxL.off ⟨_, _, _, rfl, rfl, rfl, nofun⟩ rfl rfl ?_
            refine SxL.val trivial rfl rfl (fun ρ w E H => ex_pick E rfl (t := false) rfl rfl) ?_
            refine SxL.val trivial rfl rfl (fun ρ w E H => ex_move E rfl rfl) ?_
            iterate 5 refine SxL.off ⟨_, _, _, rfl, rfl, rfl, nofun⟩ rfl rfl ?_
            refine SxL.val trivial rfl rfl (fun ρ w E H => ex_pick E rfl (t := false) rfl rfl) ?_
            refine SxL.val trivial rfl rfl (fun ρ w E H => ex_move E rfl rfl) ?_
            iterate 5 refine SxL.off ⟨_, _, _, rfl, rfl, rfl, nofun⟩ rfl rfl ?_
            refine SxL.val trivial rfl rfl (fun ρ w E H => ex_pick E rfl (t := false) rfl rfl) ?_
            refine SxL.val trivial rfl rfl (fun ρ w E H => ex_move E rfl rfl) ?_
            iterate 5 refine SxL.off ⟨_, _, _, rfl, rfl, rfl, nofun⟩ rfl rfl ?_
            refine SxL.val trivial rfl rfl (fun ρ w E H => ex_pick E rfl (t := false) rfl rfl) ?_
            refine SxL.val trivial rfl rfl (fun ρ w E H => ex_move E rfl rfl) ?_
            iterate 5 refine SxL.off ⟨_, _, _, rfl, rfl, rfl, nofun⟩ rfl rfl ?_
            refine SxL.val trivial rfl rfl (fun ρ w E H => ex_pick E rfl (t := false) rfl rfl) ?_
            refine SxL.val trivial rfl rfl (fun ρ w E H => ex_move E rfl rfl) ?_
            iterate 5 refine SxL.off ⟨_, _, _, rfl, rfl, rfl, nofun⟩ rfl rfl ?_
            refine SxL.val trivial rfl rfl (fun ρ w E H => ex_pick E rfl (t := false) rfl rfl) ?_
            refine SxL.val trivial rfl rfl (fun ρ w E H => ex_move E rfl rfl) ?_
            iterate 5 refine SxL.off ⟨_, _, _, rfl, rfl, rfl, nofun⟩ rfl rfl ?_
            refine SxL.val trivial rfl rfl (fun ρ w E H => ex_pick E rfl (t := false) rfl rfl) ?_
            refine SxL.val trivial rfl rfl (fun ρ w E H => ex_assign E rfl rfl) ?_
            refine SxL.nil (SxN.then_ (SxC.ret ?_))
            refine SxX.done (.bool false) (fun a w K H => res1 K rfl rfl) (fun w H => ?_)
            have hq : false = decide ((⟨mk, mn, mr, mb, ms, mo, mv, vl, il, ⟨ca, cb, ck, cs, ct, cu, cz⟩, mc, mt⟩ : Ms) = ⟨xk, xn, xr, xb, xs, xo, xv, wl, jl, ⟨da, db, dk, ds, dt, du, dz⟩, xc, xt⟩) := by clear H; grind [cmpB]
            exact ⟨by rw [hq], H.toBelow ⟨(fun g hg => by rw [List.mem_singleton.1 hg]; exact hg2), (fun g hg => by rw [List.mem_singleton.1 hg]; exact hg1), trivial⟩⟩
          · refine SxL.val (v := .pointer (some ⟨g1, 1, none⟩)) ⟨_, _, rfl, rfl, rfl⟩ rfl rfl (fun ρ w E H => ex_field E rfl fa_palaver_api_Msg_1 rfl rfl) ?_
            refine SxL.val ⟨_, _, rfl, rfl, rfl⟩ rfl rfl (fun ρ w E H => ex_load (part := [.int .u64 (mn : Int), .int .u8 (mr : Int)]) E (H.get (i := 1) rfl) rfl rfl Tryz.underlying24 rfl sz_palaver_api_Ballot rfl rfl) ?_
            refine SxL.val (v := .pointer (some ⟨g2, 1, none⟩)) ⟨_, _, rfl, rfl, rfl⟩ rfl rfl (fun ρ w E H => ex_field E rfl fa_palaver_api_Msg_1 rfl rfl) ?_
            refine SxL.val ⟨_, _, rfl, rfl, rfl⟩ rfl rfl (fun ρ w E H => ex_load (part := [.int .u64 (xn : Int), .int .u8 (xr : Int)]) E (H.get (i := 0) rfl) rfl rfl Tryz.underlying24 rfl sz_palaver_api_Ballot rfl rfl) ?_
            refine SxL.valB ⟨_, _, rfl, rfl, rfl⟩ rfl rfl (fun ρ w E H => ex_aeql E rfl (by kernel_rfl) rfl rfl (fun w => eq_bal mn mr xn xr w)) fun c69 hc69 => ?_
            refine SxL.val trivial rfl rfl (fun ρ w E H => ex_pick E rfl (t := true) rfl rfl) ?_
            refine SxL.val trivial rfl rfl (fun ρ w E H => ex_move E rfl rfl) ?_
            cases c69
            · refine SxL.off ⟨_, _, _, rfl, rfl, rfl, nofun⟩ rfl rfl ?_
              iterate 4 refine SxL.off ⟨_, _, _, rfl, rfl, rfl, nofun⟩ rfl rfl ?_
              refine SxL.val trivial rfl rfl (fun ρ w E H => ex_pick E rfl (t := false) rfl rfl) ?_
              refine SxL.val trivial rfl rfl (fun ρ w E H => ex_move E rfl rfl) ?_
              iterate 5 refine SxL.off ⟨_, _, _, rfl, rfl, rfl, nofun⟩ rfl rfl ?_
              refine SxL.val trivial rfl rfl (fun ρ w E H => ex_pick E rfl (t := false) rfl rfl) ?_
              refine SxL.val trivial rfl rfl (fun ρ w E H => ex_move E rfl rfl) ?_
              iterate 5 refine SxL.off ⟨_, _, _, rfl, rfl, rfl, nofun⟩ rfl rfl ?_
              refine SxL.val trivial rfl rfl (fun ρ w E H => ex_pick E rfl (t := false) rfl rfl) ?_
              refine SxL.val trivial rfl rfl (fun ρ w E H => ex_move E rfl rfl) ?_
              iterate 5 refine SxL.off ⟨_, _, _, rfl, rfl, rfl, nofun⟩ rfl rfl ?_
              refine SxL.val trivial rfl rfl (fun ρ w E H => ex_pick E rfl (t := false) rfl rfl) ?_
              refine SxL.val trivial rfl rfl (fun ρ w E H => ex_move E rfl rfl) ?_
              iterate 5 refine SxL.off ⟨_, _, _, rfl, rfl, rfl, nofun⟩ rfl rfl ?_
              refine SxL.val trivial rfl rfl (fun ρ w E H => ex_pick E rfl (t := false) rfl rfl) ?_
              refine SxL.val trivial rfl rfl (fun ρ w E H => ex_move E rfl rfl) ?_
              iterate 5 refine SxL.off ⟨_, _, _, rfl, rfl, rfl, nofun⟩ rfl rfl ?_
              refine SxL.val trivial rfl rfl (fun ρ w E H => ex_pick E rfl (t := false) rfl rfl) ?_
              refine SxL.val trivial rfl rfl (fun ρ w E H => ex_assign E rfl rfl) ?_
              refine SxL.nil (SxN.then_ (SxC.ret ?_))
              refine SxX.done (.bool false) (fun a w K H => res1 K rfl rfl) (fun w H => ?_)
              have hq : false = decide ((⟨mk, mn, mr, mb, ms, mo, mv, vl, il, ⟨ca, cb, ck, cs, ct, cu, cz⟩, mc, mt⟩ : Ms) = ⟨xk, xn, xr, xb, xs, xo, xv, wl, jl, ⟨da, db, dk, ds, dt, du, dz⟩, xc, xt⟩) := by clear H; grind [cmpB]
              exact ⟨by rw [hq], H.toBelow ⟨(fun g hg => by rw [List.mem_singleton.1 hg]; exact hg2), (fun g hg => by rw [List.mem_singleton.1 hg]; exact hg1), trivial⟩⟩
            · refine SxL.val (v := .pointer (some ⟨g1, 3, none⟩)) ⟨_, _, rfl, rfl, rfl⟩ rfl rfl (fun ρ w E H => ex_field E rfl fa_palaver_api_Msg_2 rfl rfl) ?_
              refine SxL.val ⟨_, _, rfl, rfl, rfl⟩ rfl rfl (fun ρ w E H => ex_load1 E (H.get (i := 1) rfl) rfl rfl Tryz.underlying22 rfl rfl) ?_
              refine SxL.val (v := .pointer (some ⟨g2, 3, none⟩)) ⟨_, _, rfl, rfl, rfl⟩ rfl rfl (fun ρ w E H => ex_field E rfl fa_palaver_api_Msg_2 rfl rfl) ?_
              refine SxL.val ⟨_, _, rfl, rfl, rfl⟩ rfl rfl (fun ρ w E H => ex_load1 E (H.get (i := 0) rfl) rfl rfl Tryz.underlying22 rfl rfl) ?_
              refine SxL.valB ⟨_, _, rfl, rfl, rfl⟩ rfl rfl (fun ρ w E H => ex_cmp E rfl rfl rfl rfl rfl) fun c76 hc76 => ?_
              refine SxL.val trivial rfl rfl (fun ρ w E H => ex_pick E rfl (t := true) rfl rfl) ?_
              refine SxL.val trivial rfl rfl (fun ρ w E H => ex_move E rfl rfl) ?_
              cases c76
              · refine SxL.off ⟨_, _, _, rfl, rfl, rfl, nofun⟩ rfl rfl ?_
                iterate 4 refine SxL.off ⟨_, _, _, rfl, rfl, rfl, nofun⟩ rfl rfl ?_
                refine SxL.val trivial rfl rfl (fun ρ w E H => ex_pick E rfl (t := false) rfl rfl) ?_
                refine SxL.val trivial rfl rfl (fun ρ w E H => ex_move E rfl rfl) ?_
                iterate 5 refine SxL.off ⟨_, _, _, rfl, rfl, rfl, nofun⟩ rfl rfl ?_
                refine SxL.val trivial rfl rfl (fun ρ w E H => ex_pick E rfl (t := false) rfl rfl) ?_
                refine SxL.val trivial rfl rfl (fun ρ w E H => ex_move E rfl rfl) ?_
                iterate 5 refine SxL.off ⟨_, _, _, rfl, rfl, rfl, nofun⟩ rfl rfl ?_
                refine SxL.val trivial rfl rfl (fun ρ w E H => ex_pick E rfl (t := false) rfl rfl) ?_
                refine SxL.val trivial rfl rfl (fun ρ w E H => ex_move E rfl rfl) ?_
                iterate 5 refine SxL.off ⟨_, _, _, rfl, rfl, rfl, nofun⟩ rfl rfl ?_
                refine SxL.val trivial rfl rfl (fun ρ w E H => ex_pick E rfl (t := false) rfl rfl) ?_
                refine SxL.val trivial rfl rfl (fun ρ w E H => ex_move E rfl rfl) ?_
                iterate 5 refine SxL.off ⟨_, _, _, rfl, rfl, rfl, nofun⟩ rfl rfl ?_
                refine SxL.val trivial rfl rfl (fun ρ w E H => ex_pick E rfl (t := false) rfl rfl) ?_
                refine SxL.val trivial rfl rfl (fun ρ w E H => ex_assign E rfl rfl) ?_
                refine SxL.nil (SxN.then_ (SxC.ret ?_))
                refine SxX.done (.bool false) (fun a w K H => res1 K rfl rfl) (fun w H => ?_)
                have hq : false = decide ((⟨mk, mn, mr, mb, ms, mo, mv, vl, il, ⟨ca, cb, ck, cs, ct, cu, cz⟩, mc, mt⟩ : Ms) = ⟨xk, xn, xr, xb, xs, xo, xv, wl, jl, ⟨da, db, dk, ds, dt, du, dz⟩, xc, xt⟩) := by clear H; grind [cmpB]
                exact ⟨by rw [hq], H.toBelow ⟨(fun g hg => by rw [List.mem_singleton.1 hg]; exact hg2), (fun g hg => by rw [List.mem_singleton.1 hg]; exact hg1), trivial⟩⟩
              · refine SxL.val (v := .pointer (some ⟨g1, 4, none⟩)) ⟨_, _, rfl, rfl, rfl⟩ rfl rfl (fun ρ w E H => ex_field E rfl fa_palaver_api_Msg_3 rfl rfl) ?_
                refine SxL.val ⟨_, _, rfl, rfl, rfl⟩ rfl rfl (fun ρ w E H => ex_load1 E (H.get (i := 1) rfl) rfl rfl Tryz.underlying22 rfl rfl) ?_
                refine SxL.val (v := .pointer (some ⟨g2, 4, none⟩)) ⟨_, _, rfl, rfl, rfl⟩ rfl rfl (fun ρ w E H => ex_field E rfl fa_palaver_api_Msg_3 rfl rfl) ?_
                refine SxL.val ⟨_, _, rfl, rfl, rfl⟩ rfl rfl (fun ρ w E H => ex_load1 E (H.get (i := 0) rfl) rfl rfl Tryz.underlying22 rfl rfl) ?_
                refine SxL.valB ⟨_, _, rfl, rfl, rfl⟩ rfl rfl (fun ρ w E H => ex_cmp E rfl rfl rfl rfl rfl) fun c83 hc83 => ?_
                refine SxL.val trivial rfl rfl (fun ρ w E H => ex_pick E rfl (t := true) rfl rfl) ?_
                refine SxL.val trivial rfl rfl (fun ρ w E H => ex_move E rfl rfl) ?_
                cases c83
                · refine SxL.off ⟨_, _, _, rfl, rfl, rfl, nofun⟩ rfl rfl ?_
                  iterate 4 refine SxL.off ⟨_, _, _, rfl, rfl, rfl, nofun⟩ rfl rfl ?_
                  refine SxL.val trivial rfl rfl (fun ρ w E H => ex_pick E rfl (t := false) rfl rfl) ?_
                  refine SxL.val trivial rfl rfl (fun ρ w E H => ex_move E rfl rfl) ?_
                  iterate 5 refine SxL.off ⟨_, _, _, rfl, rfl, rfl, nofun⟩ rfl rfl ?_
                  refine SxL.val trivial rfl rfl (fun ρ w E H => ex_pick E rfl (t := false) rfl rfl) ?_
                  refine SxL.val trivial rfl rfl (fun ρ w E H => ex_move E rfl rfl) ?_
                  iterate 5 refine SxL.off ⟨_, _, _, rfl, rfl, rfl, nofun⟩ rfl rfl ?_
                  refine SxL.val trivial rfl rfl (fun ρ w E H => ex_pick E rfl (t := false) rfl rfl) ?_
                  refine SxL.val trivial rfl rfl (fun ρ w E H => ex_move E rfl rfl) ?_
                  iterate 5 refine SxL.off ⟨_, _, _, rfl, rfl, rfl, nofun⟩ rfl rfl ?_
                  refine SxL.val trivial rfl rfl (fun ρ w E H => ex_pick E rfl (t := false) rfl rfl) ?_
                  refine SxL.val trivial rfl rfl (fun ρ w E H => ex_assign E rfl rfl) ?_
                  refine SxL.nil (SxN.then_ (SxC.ret ?_))
                  refine SxX.done (.bool false) (fun a w K H => res1 K rfl rfl) (fun w H => ?_)
                  have hq : false = decide ((⟨mk, mn, mr, mb, ms, mo, mv, vl, il, ⟨ca, cb, ck, cs, ct, cu, cz⟩, mc, mt⟩ : Ms) = ⟨xk, xn, xr, xb, xs, xo, xv, wl, jl, ⟨da, db, dk, ds, dt, du, dz⟩, xc, xt⟩) := by clear H; grind [cmpB]
                  exact ⟨by rw [hq], H.toBelow ⟨(fun g hg => by rw [List.mem_singleton.1 hg]; exact hg2), (fun g hg => by rw [List.mem_singleton.1 hg]; exact hg1), trivial⟩⟩
                · refine SxL.val (v := .pointer (some ⟨g1, 5, none⟩)) ⟨_, _, rfl, rfl, rfl⟩ rfl rfl (fun ρ w E H => ex_field E rfl fa_palaver_api_Msg_4 rfl rfl) ?_
                  refine SxL.val ⟨_, _, rfl, rfl, rfl⟩ rfl rfl (fun ρ w E H => ex_load1 E (H.get (i := 1) rfl) rfl rfl Tryz.underlying5 rfl rfl) ?_
                  refine SxL.val (v := .pointer (some ⟨g2, 5, none⟩)) ⟨_, _, rfl, rfl, rfl⟩ rfl rfl (fun ρ w E H => ex_field E rfl fa_palaver_api_Msg_4 rfl rfl) ?_
                  refine SxL.val ⟨_, _, rfl, rfl, rfl⟩ rfl rfl (fun ρ w E H => ex_load1 E (H.get (i := 0) rfl) rfl rfl Tryz.underlying5 rfl rfl) ?_
                  refine SxL.valB ⟨_, _, rfl, rfl, rfl⟩ rfl rfl (fun ρ w E H => ex_cmp E rfl rfl rfl rfl rfl) fun c90 hc90 => ?_
                  refine SxL.val trivial rfl rfl (fun ρ w E H => ex_pick E rfl (t := true) rfl rfl) ?_
                  refine SxL.val trivial rfl rfl (fun ρ w E H => ex_move E rfl rfl) ?_
                  cases c90
                  · refine SxL.off ⟨_, _, _, rfl, rfl, rfl, nofun⟩ rfl rfl ?_
                    iterate 4 refine SxL.off ⟨_, _, _, rfl, rfl, rfl, nofun⟩ rfl rfl ?_
                    refine SxL.val trivial rfl rfl (fun ρ w E H => ex_pick E rfl (t := false) rfl rfl) ?_
                    refine SxL.val trivial rfl rfl (fun ρ w E H => ex_move E rfl rfl) ?_
                    iterate 5 refine SxL.off ⟨_, _, _, rfl, rfl, rfl, nofun⟩ rfl rfl ?_
                    refine SxL.val trivial rfl rfl (fun ρ w E H => ex_pick E rfl (t := false) rfl rfl) ?_
                    refine SxL.val trivial rfl rfl (fun ρ w E H => ex_move E rfl rfl) ?_
                    iterate 5 refine SxL.off ⟨_, _, _, rfl, rfl, rfl, nofun⟩ rfl rfl ?_
                    refine SxL.val trivial rfl rfl (fun ρ w E H => ex_pick E rfl (t := false) rfl rfl) ?_
                    refine SxL.val trivial rfl rfl (fun ρ w E H => ex_assign E rfl rfl) ?_
                    refine SxL.nil (SxN.then_ (SxC.ret ?_))
                    refine SxX.done (.bool false) (fun a w K H => res1 K rfl rfl) (fun w H => ?_)
                    have hq : false = decide ((⟨mk, mn, mr, mb, ms, mo, mv, vl, il, ⟨ca, cb, ck, cs, ct, cu, cz⟩, mc, mt⟩ : Ms) = ⟨xk, xn, xr, xb, xs, xo, xv, wl, jl, ⟨da, db, dk, ds, dt, du, dz⟩, xc, xt⟩) := by clear H; grind [cmpB]
                    exact ⟨by rw [hq], H.toBelow ⟨(fun g hg => by rw [List.mem_singleton.1 hg]; exact hg2), (fun g hg => by rw [List.mem_singleton.1 hg]; exact hg1), trivial⟩⟩
                  · refine SxL.val (v := .pointer (some ⟨g1, 6, none⟩)) ⟨_, _, rfl, rfl, rfl⟩ rfl rfl (fun ρ w E H => ex_field E rfl fa_palaver_api_Msg_5 rfl rfl) ?_
                    refine SxL.val ⟨_, _, rfl, rfl, rfl⟩ rfl rfl (fun ρ w E H => ex_load1 E (H.get (i := 1) rfl) rfl rfl Tryz.underlying9 rfl rfl) ?_
                    refine SxL.val (v := .pointer (some ⟨g2, 6, none⟩)) ⟨_, _, rfl, rfl, rfl⟩ rfl rfl (fun ρ w E H => ex_field E rfl fa_palaver_api_Msg_5 rfl rfl) ?_
                    refine SxL.val ⟨_, _, rfl, rfl, rfl⟩ rfl rfl (fun ρ w E H => ex_load1 E (H.get (i := 0) rfl) rfl rfl Tryz.underlying9 rfl rfl) ?_
                    refine SxL.valB ⟨_, _, rfl, rfl, rfl⟩ rfl rfl (fun ρ w E H => ex_seql E rfl rfl rfl rfl) fun c97 hc97 => ?_
                    refine SxL.val trivial rfl rfl (fun ρ w E H => ex_pick E rfl (t := true) rfl rfl) ?_
                    refine SxL.val trivial rfl rfl (fun ρ w E H => ex_move E rfl rfl) ?_
                    cases c97
                    · refine SxL.off ⟨_, _, _, rfl, rfl, rfl, nofun⟩ rfl rfl ?_
                      iterate 4 refine SxL.off ⟨_, _, _, rfl, rfl, rfl, nofun⟩ rfl rfl ?_
                      refine SxL.val trivial rfl rfl (fun ρ w E H => ex_pick E rfl (t := false) rfl rfl) ?_
                      refine SxL.val trivial rfl rfl (fun ρ w E H => ex_move E rfl rfl) ?_
                      iterate 5 refine SxL.off ⟨_, _, _, rfl, rfl, rfl, nofun⟩ rfl rfl ?_
                      refine SxL.val trivial rfl rfl (fun ρ w E H => ex_pick E rfl (t := false) rfl rfl) ?_
                      refine SxL.val trivial rfl rfl (fun ρ w E H => ex_assign E rfl rfl) ?_
                      refine SxL.nil (SxN.then_ (SxC.ret ?_))
                      refine SxX.done (.bool false) (fun a w K H => res1 K rfl rfl) (fun w H => ?_)
                      have hq : false = decide ((⟨mk, mn, mr, mb, ms, mo, mv, vl, il, ⟨ca, cb, ck, cs, ct, cu, cz⟩, mc, mt⟩ : Ms) = ⟨xk, xn, xr, xb, xs, xo, xv, wl, jl, ⟨da, db, dk, ds, dt, du, dz⟩, xc, xt⟩) := by clear H; grind [cmpB]
                      exact ⟨by rw [hq], H.toBelow ⟨(fun g hg => by rw [List.mem_singleton.1 hg]; exact hg2), (fun g hg => by rw [List.mem_singleton.1 hg]; exact hg1), trivial⟩⟩
                    · refine SxL.val (v := .pointer (some ⟨g1, 9, none⟩)) ⟨_, _, rfl, rfl, rfl⟩ rfl rfl (fun ρ w E H => ex_field E rfl fa_palaver_api_Msg_8 rfl rfl) ?_
                      refine SxL.val ⟨_, _, rfl, rfl, rfl⟩ rfl rfl (fun ρ w E H => ex_load (part := [.int .u8 (ca : Int), .int .u32 (cb : Int), .int .u8 (ck : Int), .string ⟨cs.toArray⟩, .string ⟨ct.toArray⟩, .string ⟨cu.toArray⟩, .int .u8 (cz : Int)]) E (H.get (i := 1) rfl) rfl rfl Tryz.underlying29 rfl sz_palaver_api_Cmd rfl rfl) ?_
                      refine SxL.val (v := .pointer (some ⟨g2, 9, none⟩)) ⟨_, _, rfl, rfl, rfl⟩ rfl rfl (fun ρ w E H => ex_field E rfl fa_palaver_api_Msg_8 rfl rfl) ?_
                      refine SxL.val ⟨_, _, rfl, rfl, rfl⟩ rfl rfl (fun ρ w E H => ex_load (part := [.int .u8 (da : Int), .int .u32 (db : Int), .int .u8 (dk : Int), .string ⟨ds.toArray⟩, .string ⟨dt.toArray⟩, .string ⟨du.toArray⟩, .int .u8 (dz : Int)]) E (H.get (i := 0) rfl) rfl rfl Tryz.underlying29 rfl sz_palaver_api_Cmd rfl rfl) ?_
                      refine SxL.valB ⟨_, _, rfl, rfl, rfl⟩ rfl rfl (fun ρ w E H => ex_aeql E rfl (by kernel_rfl) rfl rfl (fun w => eq_cm (⟨ca, cb, ck, cs, ct, cu, cz⟩ : Cmd.Cm) ⟨da, db, dk, ds, dt, du, dz⟩ w)) fun c104 hc104 => ?_
                      refine SxL.val trivial rfl rfl (fun ρ w E H => ex_pick E rfl (t := true) rfl rfl) ?_
                      refine SxL.val trivial rfl rfl (fun ρ w E H => ex_move E rfl rfl) ?_
                      cases c104
                      · refine SxL.off ⟨_, _, _, rfl, rfl, rfl, nofun⟩ rfl rfl ?_
                        iterate 4 refine SxL.off ⟨_, _, _, rfl, rfl, rfl, nofun⟩ rfl rfl ?_
                        refine SxL.val trivial rfl rfl (fun ρ w E H => ex_pick E rfl (t := false) rfl rfl) ?_
                        refine SxL.val trivial rfl rfl (fun ρ w E H => ex_assign E rfl rfl) ?_
                        refine SxL.nil (SxN.then_ (SxC.ret ?_))
                        refine SxX.done (.bool false) (fun a w K H => res1 K rfl rfl) (fun w H => ?_)
                        have hq : false = decide ((⟨mk, mn, mr, mb, ms, mo, mv, vl, il, ⟨ca, cb, ck, cs, ct, cu, cz⟩, mc, mt⟩ : Ms) = ⟨xk, xn, xr, xb, xs, xo, xv, wl, jl, ⟨da, db, dk, ds, dt, du, dz⟩, xc, xt⟩) := by clear H; grind [cmpB]
                        exact ⟨by rw [hq], H.toBelow ⟨(fun g hg => by rw [List.mem_singleton.1 hg]; exact hg2), (fun g hg => by rw [List.mem_singleton.1 hg]; exact hg1), trivial⟩⟩
                      · refine SxL.val (v := .pointer (some ⟨g1, 16, none⟩)) ⟨_, _, rfl, rfl, rfl⟩ rfl rfl (fun ρ w E H => ex_field E rfl fa_palaver_api_Msg_9 rfl rfl) ?_
                        refine SxL.val ⟨_, _, rfl, rfl, rfl⟩ rfl rfl (fun ρ w E H => ex_load (part := [.int .u8 (mc : Int), .string ⟨mt.toArray⟩]) E (H.get (i := 1) rfl) rfl rfl Tryz.underlying31 rfl sz_palaver_api_Reply rfl rfl) ?_
                        refine SxL.val (v := .pointer (some ⟨g2, 16, none⟩)) ⟨_, _, rfl, rfl, rfl⟩ rfl rfl (fun ρ w E H => ex_field E rfl fa_palaver_api_Msg_9 rfl rfl) ?_
                        refine SxL.val ⟨_, _, rfl, rfl, rfl⟩ rfl rfl (fun ρ w E H => ex_load (part := [.int .u8 (xc : Int), .string ⟨xt.toArray⟩]) E (H.get (i := 0) rfl) rfl rfl Tryz.underlying31 rfl sz_palaver_api_Reply rfl rfl) ?_
                        refine SxL.valB ⟨_, _, rfl, rfl, rfl⟩ rfl rfl (fun ρ w E H => ex_aeql E rfl (by kernel_rfl) rfl rfl (fun w => eq_ry mc xc mt xt w)) fun c111 hc111 => ?_
                        refine SxL.val trivial rfl rfl (fun ρ w E H => ex_pick E rfl (t := true) rfl rfl) ?_
                        refine SxL.val trivial rfl rfl (fun ρ w E H => ex_assign E rfl rfl) ?_
                        refine SxL.nil (SxN.then_ (SxC.ret ?_))
                        refine SxX.done (.bool c111) (fun a w K H => res1 K rfl rfl) (fun w H => ?_)
                        have hq : c111 = decide ((⟨mk, mn, mr, mb, ms, mo, mv, vl, il, ⟨ca, cb, ck, cs, ct, cu, cz⟩, mc, mt⟩ : Ms) = ⟨xk, xn, xr, xb, xs, xo, xv, wl, jl, ⟨da, db, dk, ds, dt, du, dz⟩, xc, xt⟩) := by
                          clear H hrel
                          have e1 : mk = xk ∧ mb = xb ∧ ms = xs ∧ mo = xo ∧ mn = xn ∧ mr = xr ∧ mv = xv := by clear hc104 hc111; grind [cmpB]
                          obtain ⟨rfl, rfl, rfl, rfl, rfl, rfl, rfl⟩ := e1
                          subst hV hI
                          have e2 := of_decide_eq_true hc104
                          injection e2 with f1 f2 f3 f4 f5 f6 f7
                          subst f1 f2 f3 f4 f5 f6 f7
                          rw [← hc111]
                          apply Bool.eq_iff_iff.2
                          simp
                        exact ⟨by rw [hq], H.toBelow ⟨(fun g hg => by rw [List.mem_singleton.1 hg]; exact hg2), (fun g hg => by rw [List.mem_singleton.1 hg]; exact hg1), trivial⟩⟩
        · refine SxC.condT rfl (SxC.skip (SxN.then_ (SxC.seq (SxC.block (SxC.seq ?_)))))
          have hkl : k < il.length := by have h := hc45; simp [cmpB] at h; omega
          have hkl2 : k < jl.length := by omega
          obtain ⟨x, hx⟩ : ∃ x, il[k]? = some x := ⟨_, List.getElem?_eq_getElem hkl⟩
          obtain ⟨y, hy⟩ : ∃ x, jl[k]? = some x := ⟨_, List.getElem?_eq_getElem hkl2⟩
          obtain ⟨a1, rfl, -, -⟩ := hi.row hx
          obtain ⟨a2, rfl, -, -⟩ := hi2.row hy
          refine SxC.drawnK [] [0, 1] (by kernel_rfl) rfl ⟨(fun g hg => by rw [List.mem_singleton.1 hg]; exact .inr hg2), (fun g hg => by rw [List.mem_singleton.1 hg]; exact .inr hg1), trivial⟩ ?_
          refine SxA.take (i := 0) (v := .pointer (some ⟨g1, 8, none⟩)) rfl (by kernel_rfl) (by kernel_rfl) (by kernel_rfl) rfl rfl (fun _ _ _ h => h) trivial (fun ρ w E H => ex_field E rfl fa_palaver_api_Msg_7 rfl rfl) ?_
          refine SxA.take (i := 1) rfl (by kernel_rfl) (by kernel_rfl) (by kernel_rfl) rfl rfl (fun _ _ _ h => h) trivial (fun ρ w E H => ex_load1 E (H.get (i := 1) rfl) rfl rfl Tryz.underlying26 rfl rfl) ?_
          refine SxA.take (i := 2) rfl (by kernel_rfl) (by kernel_rfl) (by kernel_rfl) rfl rfl (fun _ _ _ h => h) trivial (fun ρ w E H => ex_move E rfl rfl) ?_
          refine SxA.take (i := 3) (v := .pointer (some (a1.add (k * 2)))) rfl (by kernel_rfl) (by kernel_rfl) (by kernel_rfl) rfl rfl (fun _ _ _ h => h) trivial (fun ρ w E H => ex_index (i := k) E rfl Tryz.underlying26 sz_palaver_api_Item rfl rfl hkl) ?_
          refine SxA.take (i := 4) (v := .agg #[.int .u64 (x.slot : Int), .string ⟨x.value.toArray⟩]) rfl (by kernel_rfl) (by kernel_rfl) (by kernel_rfl) rfl rfl (fun _ _ _ h => h) trivial (fun ρ w E H => ex_loadX (cs := [.int .u64 (x.slot : Int), .string ⟨x.value.toArray⟩]) E ((hi.below (H.os.below (Nat.le_refl _) (by simp))).rowA hx) rfl rfl Tryz.underlying94 rfl sz_palaver_api_Item) ?_
          refine SxA.take (i := 5) (v := .pointer (some ⟨g2, 8, none⟩)) rfl (by kernel_rfl) (by kernel_rfl) (by kernel_rfl) rfl rfl (fun _ _ _ h => h) trivial (fun ρ w E H => ex_field E rfl fa_palaver_api_Msg_7 rfl rfl) ?_
          refine SxA.take (i := 6) rfl (by kernel_rfl) (by kernel_rfl) (by kernel_rfl) rfl rfl (fun _ _ _ h => h) trivial (fun ρ w E H => ex_load1 E (H.get (i := 0) rfl) rfl rfl Tryz.underlying26 rfl rfl) ?_
          refine SxA.take (i := 7) rfl (by kernel_rfl) (by kernel_rfl) (by kernel_rfl) rfl rfl (fun _ _ _ h => h) trivial (fun ρ w E H => ex_move E rfl rfl) ?_
          refine SxA.take (i := 8) (v := .pointer (some (a2.add (k * 2)))) rfl (by kernel_rfl) (by kernel_rfl) (by kernel_rfl) rfl rfl (fun _ _ _ h => h) trivial (fun ρ w E H => ex_index (i := k) E rfl Tryz.underlying26 sz_palaver_api_Item rfl rfl hkl2) ?_
          refine SxA.take (i := 9) (v := .agg #[.int .u64 (y.slot : Int), .string ⟨y.value.toArray⟩]) rfl (by kernel_rfl) (by kernel_rfl) (by kernel_rfl) rfl rfl (fun _ _ _ h => h) trivial (fun ρ w E H => ex_loadX (cs := [.int .u64 (y.slot : Int), .string ⟨y.value.toArray⟩]) E ((hi2.below (H.os.below (Nat.le_refl _) (by simp))).rowA hy) rfl rfl Tryz.underlying94 rfl sz_palaver_api_Item) ?_
          refine SxA.takeB (i := 10) rfl (by kernel_rfl) (by kernel_rfl) (by kernel_rfl) rfl rfl (fun _ _ _ h => h) trivial (fun ρ w E H => ex_aneq E rfl (by kernel_rfl) rfl rfl (fun w => by rw [Bool.not_not]; exact eq_im x y w)) fun c58 hc58 => ?_
          refine SxA.done (by kernel_rfl) ?_
          refine SxN.then_ ?_
          cases c58
          · refine SxC.condF rfl (SxC.skip (SxN.block (SxN.then_ (SxC.region ?_))))
            refine SxL.val trivial rfl rfl (fun ρ w E H => ex_move E rfl rfl) ?_
            refine SxL.val (v := .int .i64 ((k + 1 : Nat) : Int)) trivial rfl rfl (fun ρ w E H => ex_add E rfl rfl rfl (by rw [IntKind.wrap_i64]; omega)) ?_
            refine SxL.val trivial rfl rfl (fun ρ w E H => ex_assign E rfl rfl) ?_
            refine SxL.nil ?_
            refine SxN.back (gk - 1) (k + 1) (by omega) ⟨by omega, by rw [take_snoc hx, take_snoc hy, hrel]; have h24 : x = y := (by simpa using hc58); rw [h24], hle⟩ ⟨rfl, rfl, rfl, trivial⟩ [0, 1] rfl (by decide) ⟨.inl rfl, .inl rfl, trivial⟩
          · refine SxC.condT rfl (SxC.seq (SxC.region ?_))
            refine SxL.val trivial rfl rfl (fun ρ w E H => ex_assign E rfl rfl) ?_
            refine SxL.nil (SxN.then_ (SxC.ret (SxX.blockR (SxX.thenR (SxX.thenR (SxX.blockR (SxX.thenR ?_)))))))
            refine SxX.done (.bool false) (fun a w K H => res1 K rfl rfl) (fun w H => ?_)
            have hq : false = decide ((⟨mk, mn, mr, mb, ms, mo, mv, vl, il, ⟨ca, cb, ck, cs, ct, cu, cz⟩, mc, mt⟩ : Ms) = ⟨xk, xn, xr, xb, xs, xo, xv, wl, jl, ⟨da, db, dk, ds, dt, du, dz⟩, xc, xt⟩) := by clear H; grind [cmpB]
            exact ⟨by rw [hq], H.toBelow ⟨(fun g hg => by rw [List.mem_singleton.1 hg]; exact hg2), (fun g hg => by rw [List.mem_singleton.1 hg]; exact hg1), trivial⟩⟩
      · refine SxC.condT rfl (SxC.skip (SxN.then_ (SxC.seq (SxC.block (SxC.seq ?_)))))
        have hkl : k < vl.length := by have h := hc27; simp [cmpB] at h; omega
        have hkl2 : k < wl.length := by omega
        obtain ⟨x, hx⟩ : ∃ x, vl[k]? = some x := ⟨_, List.getElem?_eq_getElem hkl⟩
        obtain ⟨y, hy⟩ : ∃ x, wl[k]? = some x := ⟨_, List.getElem?_eq_getElem hkl2⟩
        obtain ⟨a1, rfl, -, -⟩ := hv.row hx
        obtain ⟨a2, rfl, -, -⟩ := hv2.row hy
        refine SxC.drawnK [] [0, 1] (by kernel_rfl) rfl ⟨(fun g hg => by rw [List.mem_singleton.1 hg]; exact .inr hg2), (fun g hg => by rw [List.mem_singleton.1 hg]; exact .inr hg1), trivial⟩ ?_
        refine SxA.take (i := 0) (v := .pointer (some ⟨g1, 7, none⟩)) rfl (by kernel_rfl) (by kernel_rfl) (by kernel_rfl) rfl rfl (fun _ _ _ h => h) trivial (fun ρ w E H => ex_field E rfl fa_palaver_api_Msg_6 rfl rfl) ?_
        refine SxA.take (i := 1) rfl (by kernel_rfl) (by kernel_rfl) (by kernel_rfl) rfl rfl (fun _ _ _ h => h) trivial (fun ρ w E H => ex_load1 E (H.get (i := 1) rfl) rfl rfl Tryz.underlying25 rfl rfl) ?_
        refine SxA.take (i := 2) rfl (by kernel_rfl) (by kernel_rfl) (by kernel_rfl) rfl rfl (fun _ _ _ h => h) trivial (fun ρ w E H => ex_move E rfl rfl) ?_
        refine SxA.take (i := 3) (v := .pointer (some (a1.add (k * 4)))) rfl (by kernel_rfl) (by kernel_rfl) (by kernel_rfl) rfl rfl (fun _ _ _ h => h) trivial (fun ρ w E H => ex_index (i := k) E rfl Tryz.underlying25 sz_palaver_api_Vote rfl rfl hkl) ?_
        refine SxA.take (i := 4) (v := .agg #[.int .u64 (x.slot : Int), .int .u64 (x.n : Int), .int .u8 (x.r : Int), .string ⟨x.value.toArray⟩]) rfl (by kernel_rfl) (by kernel_rfl) (by kernel_rfl) rfl rfl (fun _ _ _ h => h) trivial (fun ρ w E H => ex_loadX (cs := [.int .u64 (x.slot : Int), .int .u64 (x.n : Int), .int .u8 (x.r : Int), .string ⟨x.value.toArray⟩]) E ((hv.below (H.os.below (Nat.le_refl _) (by simp))).rowA hx) rfl rfl Tryz.underlying92 rfl sz_palaver_api_Vote) ?_
        refine SxA.take (i := 5) (v := .pointer (some ⟨g2, 7, none⟩)) rfl (by kernel_rfl) (by kernel_rfl) (by kernel_rfl) rfl rfl (fun _ _ _ h => h) trivial (fun ρ w E H => ex_field E rfl fa_palaver_api_Msg_6 rfl rfl) ?_
        refine SxA.take (i := 6) rfl (by kernel_rfl) (by kernel_rfl) (by kernel_rfl) rfl rfl (fun _ _ _ h => h) trivial (fun ρ w E H => ex_load1 E (H.get (i := 0) rfl) rfl rfl Tryz.underlying25 rfl rfl) ?_
        refine SxA.take (i := 7) rfl (by kernel_rfl) (by kernel_rfl) (by kernel_rfl) rfl rfl (fun _ _ _ h => h) trivial (fun ρ w E H => ex_move E rfl rfl) ?_
        refine SxA.take (i := 8) (v := .pointer (some (a2.add (k * 4)))) rfl (by kernel_rfl) (by kernel_rfl) (by kernel_rfl) rfl rfl (fun _ _ _ h => h) trivial (fun ρ w E H => ex_index (i := k) E rfl Tryz.underlying25 sz_palaver_api_Vote rfl rfl hkl2) ?_
        refine SxA.take (i := 9) (v := .agg #[.int .u64 (y.slot : Int), .int .u64 (y.n : Int), .int .u8 (y.r : Int), .string ⟨y.value.toArray⟩]) rfl (by kernel_rfl) (by kernel_rfl) (by kernel_rfl) rfl rfl (fun _ _ _ h => h) trivial (fun ρ w E H => ex_loadX (cs := [.int .u64 (y.slot : Int), .int .u64 (y.n : Int), .int .u8 (y.r : Int), .string ⟨y.value.toArray⟩]) E ((hv2.below (H.os.below (Nat.le_refl _) (by simp))).rowA hy) rfl rfl Tryz.underlying92 rfl sz_palaver_api_Vote) ?_
        refine SxA.takeB (i := 10) rfl (by kernel_rfl) (by kernel_rfl) (by kernel_rfl) rfl rfl (fun _ _ _ h => h) trivial (fun ρ w E H => ex_aneq E rfl (by kernel_rfl) rfl rfl (fun w => by rw [Bool.not_not]; exact eq_vo x y w)) fun c40 hc40 => ?_
        refine SxA.done (by kernel_rfl) ?_
        refine SxN.then_ ?_
        cases c40
        · refine SxC.condF rfl (SxC.skip (SxN.block (SxN.then_ (SxC.region ?_))))
          refine SxL.val trivial rfl rfl (fun ρ w E H => ex_move E rfl rfl) ?_
          refine SxL.val (v := .int .i64 ((k + 1 : Nat) : Int)) trivial rfl rfl (fun ρ w E H => ex_add E rfl rfl rfl (by rw [IntKind.wrap_i64]; omega)) ?_
          refine SxL.val trivial rfl rfl (fun ρ w E H => ex_assign E rfl rfl) ?_
          refine SxL.nil ?_
          refine SxN.back (gk - 1) (k + 1) (by omega) ⟨by omega, by rw [take_snoc hx, take_snoc hy, hrel]; have h24 : x = y := (by simpa using hc40); rw [h24], hle⟩ ⟨rfl, rfl, rfl, trivial⟩ [0, 1] rfl (by decide) ⟨.inl rfl, .inl rfl, trivial⟩
        · refine SxC.condT rfl (SxC.seq (SxC.region ?_))
          refine SxL.val trivial rfl rfl (fun ρ w E H => ex_assign E rfl rfl) ?_
          refine SxL.nil (SxN.then_ (SxC.ret (SxX.blockR (SxX.thenR (SxX.thenR (SxX.blockR (SxX.thenR ?_)))))))
          refine SxX.done (.bool false) (fun a w K H => res1 K rfl rfl) (fun w H => ?_)
          have hq : false = decide ((⟨mk, mn, mr, mb, ms, mo, mv, vl, il, ⟨ca, cb, ck, cs, ct, cu, cz⟩, mc, mt⟩ : Ms) = ⟨xk, xn, xr, xb, xs, xo, xv, wl, jl, ⟨da, db, dk, ds, dt, du, dz⟩, xc, xt⟩) := by clear H; grind [cmpB]
          exact ⟨by rw [hq], H.toBelow ⟨(fun g hg => by rw [List.mem_singleton.1 hg]; exact hg2), (fun g hg => by rw [List.mem_singleton.1 hg]; exact hg1), trivial⟩⟩
    · refine SxC.condT rfl (SxC.seq (SxC.region ?_))
      refine SxL.val trivial rfl rfl (fun ρ w E H => ex_assign E rfl rfl) ?_
      refine SxL.nil (SxN.then_ (SxC.ret (SxX.thenR ?_)))
      refine SxX.done (.bool false) (fun a w K H => res1 K rfl rfl) (fun w H => ?_)
      have hq : false = decide ((⟨mk, mn, mr, mb, ms, mo, mv, vl, il, ⟨ca, cb, ck, cs, ct, cu, cz⟩, mc, mt⟩ : Ms) = ⟨xk, xn, xr, xb, xs, xo, xv, wl, jl, ⟨da, db, dk, ds, dt, du, dz⟩, xc, xt⟩) := by clear H; grind [cmpB]
      exact ⟨by rw [hq], H.toBelow ⟨(fun g hg => by rw [List.mem_singleton.1 hg]; exact hg2), (fun g hg => by rw [List.mem_singleton.1 hg]; exact hg1), trivial⟩⟩
  · refine SxL.off ⟨_, _, _, rfl, rfl, rfl, nofun⟩ rfl rfl ?_
    iterate 6 refine SxL.off ⟨_, _, _, rfl, rfl, rfl, nofun⟩ rfl rfl ?_
    refine SxL.val trivial rfl rfl (fun ρ w E H => ex_pick E rfl (t := true) rfl rfl) ?_
    refine SxL.nil (SxN.then_ (SxC.condT rfl (SxC.seq (SxC.region ?_))))
    refine SxL.val trivial rfl rfl (fun ρ w E H => ex_assign E rfl rfl) ?_
    refine SxL.nil (SxN.then_ (SxC.ret (SxX.thenR ?_)))
    refine SxX.done (.bool false) (fun a w K H => res1 K rfl rfl) (fun w H => ?_)
    have hq : false = decide ((⟨mk, mn, mr, mb, ms, mo, mv, vl, il, ⟨ca, cb, ck, cs, ct, cu, cz⟩, mc, mt⟩ : Ms) = ⟨xk, xn, xr, xb, xs, xo, xv, wl, jl, ⟨da, db, dk, ds, dt, du, dz⟩, xc, xt⟩) := by clear H; grind [cmpB]
    exact ⟨by rw [hq], H.toBelow ⟨(fun g hg => by rw [List.mem_singleton.1 hg]; exact hg2), (fun g hg => by rw [List.mem_singleton.1 hg]; exact hg1), trivial⟩⟩

theorem rsame_any (m x : Ms) (A B C D : Option Addr) (ka kb kc kd : Nat) (w : World) (h1 : MsRows w m A B) (h2 : MsRows w x C D) (hl1 : m.votes.length ≤ 1000000) (hl2 : m.items.length ≤ 1000000) :
    Calls Tryz.prog 14 #[msV m A ka B kb, msV x C kc D kd] w fun e w' => e = .returned (.bool (decide (m = x))) ∧ Below w.heap.size w w' := by
  obtain ⟨mk, mn, mr, mb, ms, mo, mv, vl, il, ⟨ca, cb, ck, cs, ct, cu, cz⟩, mc, mt⟩ := m
  obtain ⟨xk, xn, xr, xb, xs, xo, xv, wl, jl, ⟨da, db, dk, ds, dt, du, dz⟩, xc, xt⟩ := x
  exact rsame_lit _ _ _ _ _ _ _ _ _ _ _ _ _ _ _ _ _ _ _ _ _ _ _ _ _ _ _ _ _ _ _ _ _ _ _ _ _ _ _ _ _ _ _ _ w h1.hv h1.hi h2.hv h2.hi hl1 hl2
end Go.Proofs.YteiaiilfekojfaaGreat.Msg
end
section
set_option linter.unusedVariables false
set_option linter.unusedSimpArgs false
namespace Go.Proofs.YteiaiilfekojfaaGreat.Net
open Go.RowKit Sx Wire DrawInv
open Msg
set_option maxRecDepth 100000 in
set_option maxHeartbeats 4000000 in
theorem wakes_any   (w : World) : Calls Tryz.prog 21 #[] w fun e w' => e = .returned (.bool true) ∧ Below w.heap.size w w' := by
  obtain ⟨sb, hp1, hby0, htk⟩ := ask_put 3 (by decide)
  have hs1 : sendN [] 0 1 (askM 3) = ([⟨0, 1, sb⟩], 0) := by unfold sendN; rw [if_pos (by decide), hp1]; rfl
  have hby1 : ∀ p ∈ [(⟨0, 1, sb⟩ : Pa)], p.bytes.length ≤ 100000 := fun p hp => by rw [List.mem_singleton.1 hp]; exact hby0
  have ht4 : takeN [(⟨0, 1, sb⟩ : Pa)] [] 0 1 0 = (([] : List Pa), ((0, 1, askM 3) : Nat × Nat × Ms), 0) := by
    show (if (takeM sb).2 ≠ 0 then ([(⟨0, 1, sb⟩ : Pa)], ((0, 0, ms0 0) : Nat × Nat × Ms), (takeM sb).2) else (([] : List Pa), ((0, 1, (takeM sb).1) : Nat × Nat × Ms), 0)) = _
    rw [htk, if_neg (by decide)]
  refine sx_enter (n := 84) _ Tryz.func21 rfl rfl rfl (Hp.start w) ?_
  refine SxC.seq (SxC.region ?_)
  refine SxL.val trivial rfl rfl (fun ρ w E H => ex_assign E rfl rfl) ?_
  refine SxL.nil (SxN.then_ (SxC.seq (SxC.region ?_)))
  refine SxL.call (σ := Nat × Nat) (fun s => .pointer (some ⟨s.1, 0, none⟩)) (fun s => w.heap.size ≤ s.1 ∧ w.heap.size ≤ s.2) (fun s => _) trivial rfl rfl (fun ρ w E => ex_call E en_palaver_net_New rfl rfl) call_newN fun s hgn => ?_
  obtain ⟨gn, gm⟩ := s
  dsimp only at hgn ⊢
  refine SxL.val trivial rfl rfl (fun ρ w E H => ex_assign E rfl rfl) ?_
  refine SxL.nil (SxN.then_ (SxC.seq (SxC.region ?_)))
  refine SxL.val trivial rfl rfl (fun ρ w E H => ex_move E rfl rfl) ?_
  refine SxL.callB (v := .agg #[.int .u8 10, .int .u64 0, .int .u8 0, .int .u64 0, .int .u64 3, .int .u8 0, .string ⟨[].toArray⟩, .slice none 0 0, .slice none 0 0, .int .u8 0, .int .u32 0, .int .u8 0, .string ⟨[].toArray⟩, .string ⟨[].toArray⟩, .string ⟨[].toArray⟩, .int .u8 0, .int .u8 0, .string ⟨[].toArray⟩]) trivial rfl rfl (fun ρ w E => ex_call E en_palaver_palaverlaw26_ask rfl rfl) (fun w H => ask_any 3 w) ?_
  refine SxL.val trivial rfl rfl (fun ρ w E H => ex_build (cs := [.int .u8 0, .int .u8 1, .int .u8 10, .int .u64 0, .int .u8 0, .int .u64 0, .int .u64 3, .int .u8 0, .string ⟨[].toArray⟩, .slice none 0 0, .slice none 0 0, .int .u8 0, .int .u32 0, .int .u8 0, .string ⟨[].toArray⟩, .string ⟨[].toArray⟩, .string ⟨[].toArray⟩, .int .u8 0, .int .u8 0, .string ⟨[].toArray⟩]) E rfl rfl (by kernel_rfl)) ?_
  refine SxL.call (σ := Value) (fun _ => .int .i64 0) (fun s => OwnIn w [] s) (fun s => _) trivial rfl rfl (fun ρ w E => ex_call E en_palaver_net_Net_Send rfl rfl) (callNet (i := 0) (bag' := [(⟨0, 1, sb⟩ : Pa)]) (M' := ([] : CutM)) rfl (fun b hb => by simp [Value.ownBlock] at hb) (fun W H => (send_any w.heap.size gn gm _ [] [] 0 1 (askM 3) none none 0 0 W (H.get (i := 0) rfl) (by simp) H.os.size (ask_fits 3 (by decide)) ((ask_lim 3).small (ask_fits 3 (by decide))) (none_rows W _ rfl rfl)).mono fun _ _ h => by rw [hs1] at h; exact h)) fun V17 hV17 => ?_
  refine SxL.val trivial rfl rfl (fun ρ w E H => ex_assign E rfl rfl) ?_
  refine SxL.nil (SxN.then_ (SxC.seq (SxC.region ?_)))
  refine SxL.val trivial rfl rfl (fun ρ w E H => ex_move E rfl rfl) ?_
  refine SxL.call (σ := Value × Value × Value) (fun q => .tuple #[.agg (.int .u8 ((([(⟨0, 1, sb⟩ : Pa)], ((0, 0, ms0 0) : Nat × Nat × Ms), 11)).2.1.1 : Int) :: .int .u8 ((([(⟨0, 1, sb⟩ : Pa)], ((0, 0, ms0 0) : Nat × Nat × Ms), 11)).2.1.2.1 : Int) :: msL (([(⟨0, 1, sb⟩ : Pa)], ((0, 0, ms0 0) : Nat × Nat × Ms), 11)).2.1.2.2 q.2.1 q.2.2).toArray, .int .i64 ((([(⟨0, 1, sb⟩ : Pa)], ((0, 0, ms0 0) : Nat × Nat × Ms), 11)).2.2 : Int)]) (fun q => OwnIn w [] q.1 ∧ OwnIn w [] q.2.1 ∧ OwnIn w [] q.2.2) (fun q => _) trivial rfl rfl (fun ρ w E => ex_call E en_palaver_net_Net_Take rfl rfl) (call_takeN (i := 0) (r := ([(⟨0, 1, sb⟩ : Pa)], ((0, 0, ms0 0) : Nat × Nat × Ms), 11)) rfl hV17 (by simp) (fun p hp => by cases hp) hby1 rfl) fun q hq20 => ?_
  obtain ⟨V20, U20, I20⟩ := q
  dsimp only at hq20
  refine SxL.with (fun W H => own_is_slice (H.get (i := 0) rfl)) ?_
  rintro ⟨UA20, uk20, rfl⟩
  refine SxL.with (fun W H => own_is_slice (H.get (i := 1) rfl)) ?_
  rintro ⟨IA20, ik20, rfl⟩
  refine SxL.val trivial rfl rfl (fun ρ w E H => ex_move E rfl rfl) ?_
  refine SxL.val trivial rfl rfl (fun ρ w E H => ex_extract E rfl rfl rfl) ?_
  refine SxL.val (v := .int .i64 11) trivial rfl rfl (fun ρ w E H => ex_extract E rfl rfl rfl) ?_
  refine SxL.new (cs := [.int .u8 0, .int .u8 0, .int .u8 0, .int .u64 0, .int .u8 0, .int .u64 0, .int .u64 0, .int .u8 0, .string ⟨[].toArray⟩, .slice none 0 0, .slice none 0 0, .int .u8 0, .int .u32 0, .int .u8 0, .string ⟨[].toArray⟩, .string ⟨[].toArray⟩, .string ⟨[].toArray⟩, .int .u8 0, .int .u8 0, .string ⟨[].toArray⟩]) trivial rfl rfl (fun ρ w E H => ex_alloc rfl zr_palaver_api_Letter rfl) fun g1 hg1 => ?_
  refine SxL.storeX (i := 0) [.int .u8 0, .int .u8 0, .int .u8 0, .int .u64 0, .int .u8 0, .int .u64 0, .int .u64 0, .int .u8 0, .string ⟨[].toArray⟩, .slice UA20 0 uk20, .slice IA20 0 ik20, .int .u8 0, .int .u32 0, .int .u8 0, .string ⟨[].toArray⟩, .string ⟨[].toArray⟩, .string ⟨[].toArray⟩, .int .u8 0, .int .u8 0, .string ⟨[].toArray⟩] trivial rfl rfl rfl rfl rfl sz_palaver_api_Letter rfl rfl rfl (putL_all _ _ rfl) ?_
  refine SxL.val trivial rfl rfl (fun ρ w E H => ex_assign E rfl rfl) ?_
  refine SxL.nil (SxN.then_ (SxC.seq (SxC.region ?_)))
  refine SxL.val trivial rfl rfl (fun ρ w E H => ex_move E rfl rfl) ?_
  refine SxL.call (σ := Value × Value × Value) (fun q => .tuple #[.agg (.int .u8 ((([(⟨0, 1, sb⟩ : Pa)], ((0, 0, ms0 0) : Nat × Nat × Ms), 11)).2.1.1 : Int) :: .int .u8 ((([(⟨0, 1, sb⟩ : Pa)], ((0, 0, ms0 0) : Nat × Nat × Ms), 11)).2.1.2.1 : Int) :: msL (([(⟨0, 1, sb⟩ : Pa)], ((0, 0, ms0 0) : Nat × Nat × Ms), 11)).2.1.2.2 q.2.1 q.2.2).toArray, .int .i64 ((([(⟨0, 1, sb⟩ : Pa)], ((0, 0, ms0 0) : Nat × Nat × Ms), 11)).2.2 : Int)]) (fun q => OwnIn w [] q.1 ∧ OwnIn w [] q.2.1 ∧ OwnIn w [] q.2.2) (fun q => _) trivial rfl rfl (fun ρ w E => ex_call E en_palaver_net_Net_Take rfl rfl) (call_takeN (i := 3) (r := ([(⟨0, 1, sb⟩ : Pa)], ((0, 0, ms0 0) : Nat × Nat × Ms), 11)) rfl hq20.1 (by simp) (fun p hp => by cases hp) hby1 rfl) fun q hq25 => ?_
  obtain ⟨V25, U25, I25⟩ := q
  dsimp only at hq25
  refine SxL.with (fun W H => own_is_slice (H.get (i := 0) rfl)) ?_
  rintro ⟨UA25, uk25, rfl⟩
  refine SxL.with (fun W H => own_is_slice (H.get (i := 1) rfl)) ?_
  rintro ⟨IA25, ik25, rfl⟩
  refine SxL.val trivial rfl rfl (fun ρ w E H => ex_move E rfl rfl) ?_
  refine SxL.val trivial rfl rfl (fun ρ w E H => ex_extract E rfl rfl rfl) ?_
  refine SxL.val (v := .int .i64 11) trivial rfl rfl (fun ρ w E H => ex_extract E rfl rfl rfl) ?_
  refine SxL.new (cs := [.int .u8 0, .int .u8 0, .int .u8 0, .int .u64 0, .int .u8 0, .int .u64 0, .int .u64 0, .int .u8 0, .string ⟨[].toArray⟩, .slice none 0 0, .slice none 0 0, .int .u8 0, .int .u32 0, .int .u8 0, .string ⟨[].toArray⟩, .string ⟨[].toArray⟩, .string ⟨[].toArray⟩, .int .u8 0, .int .u8 0, .string ⟨[].toArray⟩]) trivial rfl rfl (fun ρ w E H => ex_alloc rfl zr_palaver_api_Letter rfl) fun g2 hg2 => ?_
  refine SxL.storeX (i := 0) [.int .u8 0, .int .u8 0, .int .u8 0, .int .u64 0, .int .u8 0, .int .u64 0, .int .u64 0, .int .u8 0, .string ⟨[].toArray⟩, .slice UA25 0 uk25, .slice IA25 0 ik25, .int .u8 0, .int .u32 0, .int .u8 0, .string ⟨[].toArray⟩, .string ⟨[].toArray⟩, .string ⟨[].toArray⟩, .int .u8 0, .int .u8 0, .string ⟨[].toArray⟩] trivial rfl rfl rfl rfl rfl sz_palaver_api_Letter rfl rfl rfl (putL_all _ _ rfl) ?_
  refine SxL.val trivial rfl rfl (fun ρ w E H => ex_assign E rfl rfl) ?_
  refine SxL.nil (SxN.then_ (SxC.seq (SxC.region ?_)))
  refine SxL.val trivial rfl rfl (fun ρ w E H => ex_move E rfl rfl) ?_
  refine SxL.call (σ := Value) (fun _ => .int .i64 0) (fun s => OwnIn w [] s) (fun s => _) trivial rfl rfl (fun ρ w E => ex_call E en_palaver_net_Net_Cut rfl rfl) (callNet (i := 6) (bag' := [(⟨0, 1, sb⟩ : Pa)]) (M' := [((0, 1), Value.bool true)]) rfl hq25.1 (fun W H => (cut_any _ _ _ _ _ _ 1 0 W (H.get (i := 6) rfl)).mono fun _ _ h => h)) fun V29 hV29 => ?_
  refine SxL.val trivial rfl rfl (fun ρ w E H => ex_assign E rfl rfl) ?_
  refine SxL.nil (SxN.then_ (SxC.seq (SxC.region ?_)))
  refine SxL.val trivial rfl rfl (fun ρ w E H => ex_move E rfl rfl) ?_
  refine SxL.call (σ := Value × Value × Value) (fun q => .tuple #[.agg (.int .u8 ((([(⟨0, 1, sb⟩ : Pa)], ((0, 0, ms0 0) : Nat × Nat × Ms), 13)).2.1.1 : Int) :: .int .u8 ((([(⟨0, 1, sb⟩ : Pa)], ((0, 0, ms0 0) : Nat × Nat × Ms), 13)).2.1.2.1 : Int) :: msL (([(⟨0, 1, sb⟩ : Pa)], ((0, 0, ms0 0) : Nat × Nat × Ms), 13)).2.1.2.2 q.2.1 q.2.2).toArray, .int .i64 ((([(⟨0, 1, sb⟩ : Pa)], ((0, 0, ms0 0) : Nat × Nat × Ms), 13)).2.2 : Int)]) (fun q => OwnIn w [] q.1 ∧ OwnIn w [] q.2.1 ∧ OwnIn w [] q.2.2) (fun q => _) trivial rfl rfl (fun ρ w E => ex_call E en_palaver_net_Net_Take rfl rfl) (call_takeN (i := 6) (r := ([(⟨0, 1, sb⟩ : Pa)], ((0, 0, ms0 0) : Nat × Nat × Ms), 13)) rfl hV29 (by simp) (fun p hp => by rw [List.mem_singleton.1 hp]) hby1 rfl) fun q hq32 => ?_
  obtain ⟨V32, U32, I32⟩ := q
  dsimp only at hq32
  refine SxL.with (fun W H => own_is_slice (H.get (i := 0) rfl)) ?_
  rintro ⟨UA32, uk32, rfl⟩
  refine SxL.with (fun W H => own_is_slice (H.get (i := 1) rfl)) ?_
  rintro ⟨IA32, ik32, rfl⟩
  refine SxL.val trivial rfl rfl (fun ρ w E H => ex_move E rfl rfl) ?_
  refine SxL.val trivial rfl rfl (fun ρ w E H => ex_extract E rfl rfl rfl) ?_
  refine SxL.val (v := .int .i64 13) trivial rfl rfl (fun ρ w E H => ex_extract E rfl rfl rfl) ?_
  refine SxL.new (cs := [.int .u8 0, .int .u8 0, .int .u8 0, .int .u64 0, .int .u8 0, .int .u64 0, .int .u64 0, .int .u8 0, .string ⟨[].toArray⟩, .slice none 0 0, .slice none 0 0, .int .u8 0, .int .u32 0, .int .u8 0, .string ⟨[].toArray⟩, .string ⟨[].toArray⟩, .string ⟨[].toArray⟩, .int .u8 0, .int .u8 0, .string ⟨[].toArray⟩]) trivial rfl rfl (fun ρ w E H => ex_alloc rfl zr_palaver_api_Letter rfl) fun g3 hg3 => ?_
  refine SxL.storeX (i := 0) [.int .u8 0, .int .u8 0, .int .u8 0, .int .u64 0, .int .u8 0, .int .u64 0, .int .u64 0, .int .u8 0, .string ⟨[].toArray⟩, .slice UA32 0 uk32, .slice IA32 0 ik32, .int .u8 0, .int .u32 0, .int .u8 0, .string ⟨[].toArray⟩, .string ⟨[].toArray⟩, .string ⟨[].toArray⟩, .int .u8 0, .int .u8 0, .string ⟨[].toArray⟩] trivial rfl rfl rfl rfl rfl sz_palaver_api_Letter rfl rfl rfl (putL_all _ _ rfl) ?_
  refine SxL.val trivial rfl rfl (fun ρ w E H => ex_assign E rfl rfl) ?_
  refine SxL.nil (SxN.then_ (SxC.seq (SxC.region ?_)))
  refine SxL.val trivial rfl rfl (fun ρ w E H => ex_move E rfl rfl) ?_
  refine SxL.call (σ := Value) (fun _ => .int .i64 0) (fun s => OwnIn w [] s) (fun s => _) trivial rfl rfl (fun ρ w E => ex_call E en_palaver_net_Net_Heal rfl rfl) (callNet (i := 9) (bag' := [(⟨0, 1, sb⟩ : Pa)]) (M' := ([] : CutM)) rfl hq32.1 (fun W H => (heal_any _ _ _ _ _ _ W (H.get (i := 9) rfl)).mono fun _ _ h => h)) fun V36 hV36 => ?_
  refine SxL.val trivial rfl rfl (fun ρ w E H => ex_assign E rfl rfl) ?_
  refine SxL.nil (SxN.then_ (SxC.seq (SxC.region ?_)))
  refine SxL.val trivial rfl rfl (fun ρ w E H => ex_move E rfl rfl) ?_
  refine SxL.call (σ := Value × Value × Value) (fun q => .tuple #[.agg (.int .u8 (((([] : List Pa), ((0, 1, askM 3) : Nat × Nat × Ms), 0)).2.1.1 : Int) :: .int .u8 (((([] : List Pa), ((0, 1, askM 3) : Nat × Nat × Ms), 0)).2.1.2.1 : Int) :: msL ((([] : List Pa), ((0, 1, askM 3) : Nat × Nat × Ms), 0)).2.1.2.2 q.2.1 q.2.2).toArray, .int .i64 (((([] : List Pa), ((0, 1, askM 3) : Nat × Nat × Ms), 0)).2.2 : Int)]) (fun q => OwnIn w [] q.1 ∧ OwnIn w [] q.2.1 ∧ OwnIn w [] q.2.2) (fun q => _) trivial rfl rfl (fun ρ w E => ex_call E en_palaver_net_Net_Take rfl rfl) (call_takeN (i := 9) (r := (([] : List Pa), ((0, 1, askM 3) : Nat × Nat × Ms), 0)) rfl hV36 (by simp) (fun p hp => by cases hp) hby1 ht4) fun q hq39 => ?_
  obtain ⟨V39, U39, I39⟩ := q
  dsimp only at hq39
  refine SxL.with (fun W H => own_is_slice (H.get (i := 0) rfl)) ?_
  rintro ⟨UA39, uk39, rfl⟩
  refine SxL.with (fun W H => own_is_slice (H.get (i := 1) rfl)) ?_
  rintro ⟨IA39, ik39, rfl⟩
  refine SxL.val trivial rfl rfl (fun ρ w E H => ex_move E rfl rfl) ?_
  refine SxL.val trivial rfl rfl (fun ρ w E H => ex_extract E rfl rfl rfl) ?_
  refine SxL.val (v := .int .i64 0) trivial rfl rfl (fun ρ w E H => ex_extract E rfl rfl rfl) ?_
  refine SxL.new (cs := [.int .u8 0, .int .u8 0, .int .u8 0, .int .u64 0, .int .u8 0, .int .u64 0, .int .u64 0, .int .u8 0, .string ⟨[].toArray⟩, .slice none 0 0, .slice none 0 0, .int .u8 0, .int .u32 0, .int .u8 0, .string ⟨[].toArray⟩, .string ⟨[].toArray⟩, .string ⟨[].toArray⟩, .int .u8 0, .int .u8 0, .string ⟨[].toArray⟩]) trivial rfl rfl (fun ρ w E H => ex_alloc rfl zr_palaver_api_Letter rfl) fun g4 hg4 => ?_
  refine SxL.storeX (i := 0) [.int .u8 0, .int .u8 1, .int .u8 10, .int .u64 0, .int .u8 0, .int .u64 0, .int .u64 3, .int .u8 0, .string ⟨[].toArray⟩, .slice UA39 0 uk39, .slice IA39 0 ik39, .int .u8 0, .int .u32 0, .int .u8 0, .string ⟨[].toArray⟩, .string ⟨[].toArray⟩, .string ⟨[].toArray⟩, .int .u8 0, .int .u8 0, .string ⟨[].toArray⟩] trivial rfl rfl rfl rfl rfl sz_palaver_api_Letter rfl rfl rfl (putL_all _ _ rfl) ?_
  refine SxL.val trivial rfl rfl (fun ρ w E H => ex_assign E rfl rfl) ?_
  refine SxL.nil (SxN.then_ (SxC.seq ?_))
  refine SxC.drawnK [] [0, 1, 2, 3, 4, 5, 6, 7, 8, 9, 10, 11, 12] (by kernel_rfl) rfl ⟨(fun g hg => by rw [List.mem_singleton.1 hg]; exact .inr hg4), (fun g hg => .inr (hq39.2.1.fresh g hg)), (fun g hg => .inr (hq39.2.2.fresh g hg)), (fun g hg => by rw [List.mem_singleton.1 hg]; exact .inr hg3), (fun g hg => .inr (hq32.2.1.fresh g hg)), (fun g hg => .inr (hq32.2.2.fresh g hg)), (fun g hg => by rw [List.mem_singleton.1 hg]; exact .inr hg2), (fun g hg => .inr (hq25.2.1.fresh g hg)), (fun g hg => .inr (hq25.2.2.fresh g hg)), (fun g hg => by rw [List.mem_singleton.1 hg]; exact .inr hg1), (fun g hg => .inr (hq20.2.1.fresh g hg)), (fun g hg => .inr (hq20.2.2.fresh g hg)), (fun g hg => .inr ((netF_fresh hgn.1 hgn.2 hq39.1) g hg)), trivial⟩ ?_
  refine SxA.take (i := 0) rfl (by kernel_rfl) (by kernel_rfl) (by kernel_rfl) rfl rfl (fun _ _ _ h => h) trivial (fun ρ w E H => ex_move E rfl rfl) ?_
  refine SxA.take (i := 1) (v := .bool true) rfl (by kernel_rfl) (by kernel_rfl) (by kernel_rfl) rfl rfl (fun _ _ _ h => h) trivial (fun ρ w E H => ex_cmp E rfl rfl rfl rfl (by decide)) ?_
  refine SxA.take (i := 2) rfl (by kernel_rfl) (by kernel_rfl) (by kernel_rfl) rfl rfl (fun _ _ _ h => h) trivial (fun ρ w E H => ex_move E rfl rfl) ?_
  refine SxA.take (i := 3) rfl (by kernel_rfl) (by kernel_rfl) (by kernel_rfl) rfl rfl (fun _ _ _ h => h) ⟨_, _, rfl, rfl, rfl⟩ (fun ρ w E H => ex_move E rfl rfl) ?_
  refine SxA.take (i := 4) (v := .bool true) rfl (by kernel_rfl) (by kernel_rfl) (by kernel_rfl) rfl rfl (fun _ _ _ h => h) ⟨_, _, rfl, rfl, rfl⟩ (fun ρ w E H => ex_cmp E rfl rfl rfl rfl (by decide)) ?_
  refine SxA.take (i := 5) rfl (by kernel_rfl) (by kernel_rfl) (by kernel_rfl) rfl rfl (fun _ _ _ h => h) trivial (fun ρ w E H => ex_pick E rfl (t := true) rfl rfl) ?_
  refine SxA.take (i := 6) rfl (by kernel_rfl) (by kernel_rfl) (by kernel_rfl) rfl rfl (fun _ _ _ h => h) trivial (fun ρ w E H => ex_move E rfl rfl) ?_
  refine SxA.take (i := 7) rfl (by kernel_rfl) (by kernel_rfl) (by kernel_rfl) rfl rfl (fun _ _ _ h => h) ⟨_, _, rfl, rfl, rfl⟩ (fun ρ w E H => ex_move E rfl rfl) ?_
  refine SxA.take (i := 8) (v := .bool true) rfl (by kernel_rfl) (by kernel_rfl) (by kernel_rfl) rfl rfl (fun _ _ _ h => h) ⟨_, _, rfl, rfl, rfl⟩ (fun ρ w E H => ex_cmp E rfl rfl rfl rfl (by decide)) ?_
  refine SxA.take (i := 9) rfl (by kernel_rfl) (by kernel_rfl) (by kernel_rfl) rfl rfl (fun _ _ _ h => h) trivial (fun ρ w E H => ex_pick E rfl (t := true) rfl rfl) ?_
  refine SxA.take (i := 10) rfl (by kernel_rfl) (by kernel_rfl) (by kernel_rfl) rfl rfl (fun _ _ _ h => h) trivial (fun ρ w E H => ex_move E rfl rfl) ?_
  refine SxA.take (i := 11) rfl (by kernel_rfl) (by kernel_rfl) (by kernel_rfl) rfl rfl (fun _ _ _ h => h) ⟨_, _, rfl, rfl, rfl⟩ (fun ρ w E H => ex_move E rfl rfl) ?_
  refine SxA.take (i := 12) (v := .bool true) rfl (by kernel_rfl) (by kernel_rfl) (by kernel_rfl) rfl rfl (fun _ _ _ h => h) ⟨_, _, rfl, rfl, rfl⟩ (fun ρ w E H => ex_cmp E rfl rfl rfl rfl (by decide)) ?_
  refine SxA.take (i := 13) rfl (by kernel_rfl) (by kernel_rfl) (by kernel_rfl) rfl rfl (fun _ _ _ h => h) trivial (fun ρ w E H => ex_pick E rfl (t := true) rfl rfl) ?_
  refine SxA.take (i := 14) rfl (by kernel_rfl) (by kernel_rfl) (by kernel_rfl) rfl rfl (fun _ _ _ h => h) trivial (fun ρ w E H => ex_move E rfl rfl) ?_
  refine SxA.take (i := 15) rfl (by kernel_rfl) (by kernel_rfl) (by kernel_rfl) rfl rfl (fun _ _ _ h => h) ⟨_, _, rfl, rfl, rfl⟩ (fun ρ w E H => ex_move E rfl rfl) ?_
  refine SxA.take (i := 16) (v := .bool true) rfl (by kernel_rfl) (by kernel_rfl) (by kernel_rfl) rfl rfl (fun _ _ _ h => h) ⟨_, _, rfl, rfl, rfl⟩ (fun ρ w E H => ex_cmp E rfl rfl rfl rfl (by decide)) ?_
  refine SxA.take (i := 17) rfl (by kernel_rfl) (by kernel_rfl) (by kernel_rfl) rfl rfl (fun _ _ _ h => h) trivial (fun ρ w E H => ex_pick E rfl (t := true) rfl rfl) ?_
  refine SxA.take (i := 18) rfl (by kernel_rfl) (by kernel_rfl) (by kernel_rfl) rfl rfl (fun _ _ _ h => h) trivial (fun ρ w E H => ex_move E rfl rfl) ?_
  refine SxA.take (i := 19) rfl (by kernel_rfl) (by kernel_rfl) (by kernel_rfl) rfl rfl (fun _ _ _ h => h) ⟨_, _, rfl, rfl, rfl⟩ (fun ρ w E H => ex_move E rfl rfl) ?_
  refine SxA.take (i := 20) (v := .bool true) rfl (by kernel_rfl) (by kernel_rfl) (by kernel_rfl) rfl rfl (fun _ _ _ h => h) ⟨_, _, rfl, rfl, rfl⟩ (fun ρ w E H => ex_cmp E rfl rfl rfl rfl (by decide)) ?_
  refine SxA.take (i := 21) rfl (by kernel_rfl) (by kernel_rfl) (by kernel_rfl) rfl rfl (fun _ _ _ h => h) trivial (fun ρ w E H => ex_pick E rfl (t := true) rfl rfl) ?_
  refine SxA.take (i := 22) rfl (by kernel_rfl) (by kernel_rfl) (by kernel_rfl) rfl rfl (fun _ _ _ h => h) trivial (fun ρ w E H => ex_move E rfl rfl) ?_
  refine SxA.take (i := 23) rfl (by kernel_rfl) (by kernel_rfl) (by kernel_rfl) rfl rfl (fun _ _ _ h => h) ⟨_, _, rfl, rfl, rfl⟩ (fun ρ w E H => ex_move E rfl rfl) ?_
  refine SxA.take (i := 24) (v := .bool true) rfl (by kernel_rfl) (by kernel_rfl) (by kernel_rfl) rfl rfl (fun _ _ _ h => h) ⟨_, _, rfl, rfl, rfl⟩ (fun ρ w E H => ex_cmp E rfl rfl rfl rfl (by decide)) ?_
  refine SxA.take (i := 25) rfl (by kernel_rfl) (by kernel_rfl) (by kernel_rfl) rfl rfl (fun _ _ _ h => h) trivial (fun ρ w E H => ex_pick E rfl (t := true) rfl rfl) ?_
  refine SxA.take (i := 26) rfl (by kernel_rfl) (by kernel_rfl) (by kernel_rfl) rfl rfl (fun _ _ _ h => h) trivial (fun ρ w E H => ex_move E rfl rfl) ?_
  refine SxA.take (i := 27) (v := .pointer (some ⟨g4, 1, none⟩)) rfl (by kernel_rfl) (by kernel_rfl) (by kernel_rfl) rfl rfl (fun _ _ _ h => h) ⟨_, _, rfl, rfl, rfl⟩ (fun ρ w E H => ex_field E rfl fa_palaver_api_Letter_1 rfl rfl) ?_
  refine SxA.take (i := 28) rfl (by kernel_rfl) (by kernel_rfl) (by kernel_rfl) rfl rfl (fun _ _ _ h => h) ⟨_, _, rfl, rfl, rfl⟩ (fun ρ w E H => ex_load1 E (H.get (i := 0) rfl) rfl rfl Tryz.underlying5 rfl rfl) ?_
  refine SxA.take (i := 29) (v := .bool true) rfl (by kernel_rfl) (by kernel_rfl) (by kernel_rfl) rfl rfl (fun _ _ _ h => h) ⟨_, _, rfl, rfl, rfl⟩ (fun ρ w E H => ex_cmp E rfl rfl rfl rfl (by decide)) ?_
  refine SxA.take (i := 30) rfl (by kernel_rfl) (by kernel_rfl) (by kernel_rfl) rfl rfl (fun _ _ _ h => h) trivial (fun ρ w E H => ex_pick E rfl (t := true) rfl rfl) ?_
  refine SxA.take (i := 31) rfl (by kernel_rfl) (by kernel_rfl) (by kernel_rfl) rfl rfl (fun _ _ _ h => h) trivial (fun ρ w E H => ex_move E rfl rfl) ?_
  refine SxA.take (i := 32) (v := .pointer (some ⟨g4, 2, none⟩)) rfl (by kernel_rfl) (by kernel_rfl) (by kernel_rfl) rfl rfl (fun _ _ _ h => h) ⟨_, _, rfl, rfl, rfl⟩ (fun ρ w E H => ex_field E rfl fa_palaver_api_Letter_2 rfl rfl) ?_
  refine SxA.take (i := 33) rfl (by kernel_rfl) (by kernel_rfl) (by kernel_rfl) rfl rfl (fun _ _ _ h => h) ⟨_, _, rfl, rfl, rfl⟩ (fun ρ w E H => ex_load (part := [.int .u8 10, .int .u64 0, .int .u8 0, .int .u64 0, .int .u64 3, .int .u8 0, .string ⟨[].toArray⟩, .slice UA39 0 uk39, .slice IA39 0 ik39, .int .u8 0, .int .u32 0, .int .u8 0, .string ⟨[].toArray⟩, .string ⟨[].toArray⟩, .string ⟨[].toArray⟩, .int .u8 0, .int .u8 0, .string ⟨[].toArray⟩]) E (H.get (i := 0) rfl) rfl rfl Tryz.underlying33 rfl sz_palaver_api_Msg rfl rfl) ?_
  refine SxA.ready [34] (by kernel_rfl) (by simp) ⟨?_, trivial⟩
  refine SxO.callB (v := .agg #[.int .u8 10, .int .u64 0, .int .u8 0, .int .u64 0, .int .u64 3, .int .u8 0, .string ⟨[].toArray⟩, .slice none 0 0, .slice none 0 0, .int .u8 0, .int .u32 0, .int .u8 0, .string ⟨[].toArray⟩, .string ⟨[].toArray⟩, .string ⟨[].toArray⟩, .int .u8 0, .int .u8 0, .string ⟨[].toArray⟩]) rfl ⟨_, _, rfl, rfl, rfl⟩ rfl rfl (fun ρ w E => ex_call E en_palaver_palaverlaw26_ask rfl rfl) (fun w H => ask_any 3 w) (fun w H => H.ks [] [0, 1, 2, 3, 4, 5, 6, 7, 8, 9, 10, 11, 12] rfl ⟨(fun g hg => by rw [List.mem_singleton.1 hg]; exact .inr hg4), (fun g hg => .inr (hq39.2.1.fresh g hg)), (fun g hg => .inr (hq39.2.2.fresh g hg)), (fun g hg => by rw [List.mem_singleton.1 hg]; exact .inr hg3), (fun g hg => .inr (hq32.2.1.fresh g hg)), (fun g hg => .inr (hq32.2.2.fresh g hg)), (fun g hg => by rw [List.mem_singleton.1 hg]; exact .inr hg2), (fun g hg => .inr (hq25.2.1.fresh g hg)), (fun g hg => .inr (hq25.2.2.fresh g hg)), (fun g hg => by rw [List.mem_singleton.1 hg]; exact .inr hg1), (fun g hg => .inr (hq20.2.1.fresh g hg)), (fun g hg => .inr (hq20.2.2.fresh g hg)), (fun g hg => .inr ((netF_fresh hgn.1 hgn.2 hq39.1) g hg)), trivial⟩) ?_
  refine SxA.ready [35] (by kernel_rfl) (by simp) ⟨?_, trivial⟩
  refine SxO.callB (v := .bool true) rfl ⟨_, _, rfl, rfl, rfl⟩ rfl rfl (fun ρ w E => ex_call E en_palaver_palaverref18_Same rfl rfl) (fun w H => (rsame_any (askM 3) (askM 3) UA39 IA39 none none uk39 ik39 0 0 w ⟨vrows (H.get (i := 1) rfl), irows (H.get (i := 2) rfl)⟩ (none_rows w _ rfl rfl) (by decide) (by decide)).mono fun _ _ h => ⟨by rw [h.1]; simp, h.2⟩) (fun w H => H.ks [] [0, 1, 2, 3, 4, 5, 6, 7, 8, 9, 10, 11, 12] rfl ⟨(fun g hg => by rw [List.mem_singleton.1 hg]; exact .inr hg4), (fun g hg => .inr (hq39.2.1.fresh g hg)), (fun g hg => .inr (hq39.2.2.fresh g hg)), (fun g hg => by rw [List.mem_singleton.1 hg]; exact .inr hg3), (fun g hg => .inr (hq32.2.1.fresh g hg)), (fun g hg => .inr (hq32.2.2.fresh g hg)), (fun g hg => by rw [List.mem_singleton.1 hg]; exact .inr hg2), (fun g hg => .inr (hq25.2.1.fresh g hg)), (fun g hg => .inr (hq25.2.2.fresh g hg)), (fun g hg => by rw [List.mem_singleton.1 hg]; exact .inr hg1), (fun g hg => .inr (hq20.2.1.fresh g hg)), (fun g hg => .inr (hq20.2.2.fresh g hg)), (fun g hg => .inr ((netF_fresh hgn.1 hgn.2 hq39.1) g hg)), trivial⟩) ?_
  refine SxA.take (i := 36) rfl (by kernel_rfl) (by kernel_rfl) (by kernel_rfl) rfl rfl (fun _ _ _ h => h) trivial (fun ρ w E H => ex_pick E rfl (t := true) rfl rfl) ?_
  refine SxA.take (i := 37) rfl (by kernel_rfl) (by kernel_rfl) (by kernel_rfl) rfl rfl (fun _ _ _ h => h) trivial (fun ρ w E H => ex_move E rfl rfl) ?_
  refine SxA.take (i := 38) rfl (by kernel_rfl) (by kernel_rfl) (by kernel_rfl) rfl rfl (fun _ _ _ h => h) ⟨_, _, rfl, rfl, rfl⟩ (fun ρ w E H => ex_move E rfl rfl) ?_
  refine SxA.ready [39] (by kernel_rfl) (by simp) ⟨?_, trivial⟩
  refine SxO.callB (v := .int .i64 0) rfl ⟨_, _, rfl, rfl, rfl⟩ rfl rfl (fun ρ w E => ex_call E en_palaver_net_Net_Len rfl rfl) (fun w H => len_any _ _ _ _ ([] : List Pa) _ w (H.get (i := 12) rfl)) (fun w H => H.ks [] [0, 1, 2, 3, 4, 5, 6, 7, 8, 9, 10, 11, 12] rfl ⟨(fun g hg => by rw [List.mem_singleton.1 hg]; exact .inr hg4), (fun g hg => .inr (hq39.2.1.fresh g hg)), (fun g hg => .inr (hq39.2.2.fresh g hg)), (fun g hg => by rw [List.mem_singleton.1 hg]; exact .inr hg3), (fun g hg => .inr (hq32.2.1.fresh g hg)), (fun g hg => .inr (hq32.2.2.fresh g hg)), (fun g hg => by rw [List.mem_singleton.1 hg]; exact .inr hg2), (fun g hg => .inr (hq25.2.1.fresh g hg)), (fun g hg => .inr (hq25.2.2.fresh g hg)), (fun g hg => by rw [List.mem_singleton.1 hg]; exact .inr hg1), (fun g hg => .inr (hq20.2.1.fresh g hg)), (fun g hg => .inr (hq20.2.2.fresh g hg)), (fun g hg => .inr ((netF_fresh hgn.1 hgn.2 hq39.1) g hg)), trivial⟩) ?_
  refine SxA.take (i := 40) (v := .bool true) rfl (by kernel_rfl) (by kernel_rfl) (by kernel_rfl) rfl rfl (fun _ _ _ h => h) ⟨_, _, rfl, rfl, rfl⟩ (fun ρ w E H => ex_cmp E rfl rfl rfl rfl (by decide)) ?_
  refine SxA.take (i := 41) rfl (by kernel_rfl) (by kernel_rfl) (by kernel_rfl) rfl rfl (fun _ _ _ h => h) trivial (fun ρ w E H => ex_pick E rfl (t := true) rfl rfl) ?_
  refine SxA.take (i := 42) rfl (by kernel_rfl) (by kernel_rfl) (by kernel_rfl) rfl rfl (fun _ _ _ h => h) trivial (fun ρ w E H => ex_assign E rfl rfl) ?_
  refine SxA.done (by kernel_rfl) ?_
  refine SxN.then_ (SxC.ret ?_)
  refine SxX.done (.bool true) (fun a w K H => res1 K rfl rfl) (fun w H => ?_)
  exact ⟨rfl, H.toBelow ⟨(fun g hg => by rw [List.mem_singleton.1 hg]; exact hg4), hq39.2.1.fresh, hq39.2.2.fresh, (fun g hg => by rw [List.mem_singleton.1 hg]; exact hg3), hq32.2.1.fresh, hq32.2.2.fresh, (fun g hg => by rw [List.mem_singleton.1 hg]; exact hg2), hq25.2.1.fresh, hq25.2.2.fresh, (fun g hg => by rw [List.mem_singleton.1 hg]; exact hg1), hq20.2.1.fresh, hq20.2.2.fresh, (netF_fresh hgn.1 hgn.2 hq39.1), trivial⟩⟩
end Go.Proofs.YteiaiilfekojfaaGreat.Net
end
section
set_option linter.unusedVariables false
set_option linter.unusedSimpArgs false
namespace Go.Proofs.YteiaiilfekojfaaGreat.Net
open Go.RowKit Sx Wire DrawInv
open Msg
theorem call_more {w0 : World} {L : List Ft} (ls : List Nat) (ps : List (Nat × Nat)) (p q : Nat) (A A2 : Option Addr) (c c2 : Nat) (hl : ∀ w, Hp w0 L w → Rows w A 1 iL ls) (hp : ∀ w, Hp w0 L w → Rows w A2 2 prL ps) (hle : ls.length ≤ 1000) (hpl : ps.length = ls.length) (hsm : ∀ v ∈ ls, v ≤ 1000) : ∀ w, Hp w0 L w → Calls Tryz.prog 27 #[.slice A ls.length c, .slice A2 ps.length c2, .agg #[.int .u8 (p : Int), .int .u8 (q : Int)]] w fun E w' => ∃ s : Value, E = .returned s ∧ OwnIn w0 [] s ∧ Hp w0 (rowX [] w0.heap.size 3 1 s (moreL ls ps (p, q)).length ((moreL ls ps (p, q)).flatMap iL) :: L) w' :=
  callOwn fun w H => more_any ls ps p q A A2 c c2 w (hl w H) (hp w H) hle hpl hsm
theorem prAt_some {ps : List (Nat × Nat)} {k : Nat} {p : Nat × Nat} (hk : k < ps.length) (h : prAt ps k = p) : ps[k]? = some p := by
  unfold prAt at h
  rw [List.getElem?_eq_getElem hk] at h ⊢
  rw [← h]
  rfl

set_option maxRecDepth 100000 in
set_option maxHeartbeats 4000000 in
theorem keeps_any (l : List Na) (A : Option Addr) (c : Nat) (w : World) (hA : Rows w A 22 naL l) (hQ : ∀ x ∈ l, x.Ok w) (hl : l.length ≤ 9223372036854775807) : Calls Tryz.prog 5 #[.slice A l.length c] w fun e w' => e = .returned (.bool true) ∧ Below w.heap.size w w' := by
  have hnone := own_none w 0 0
  refine sx_enter (n := 219) _ Tryz.func5 rfl rfl rfl (Hp.start w) ?_
  refine SxC.seq (SxC.region ?_)
  refine SxL.val trivial rfl rfl (fun ρ w E H => ex_assign E rfl rfl) ?_
  refine SxL.nil (SxN.then_ (SxC.seq (SxC.seq (SxC.region ?_))))
  refine SxL.val trivial rfl rfl (fun ρ w E H => ex_move E rfl rfl) ?_
  refine SxL.val (v := .int .i64 (l.length : Int)) trivial rfl rfl (fun ρ w E H => ex_lenS E rfl Tryz.underlying47 rfl) ?_
  refine SxL.valB trivial rfl rfl (fun ρ w E H => ex_cmp E rfl rfl rfl rfl rfl) fun c19 hc19 => ?_
  refine SxL.nil (SxN.then_ ?_)
  cases c19
  · refine SxC.condF rfl (SxC.skip (SxN.then_ (SxC.seq (SxC.region ?_))))
    refine SxL.call (σ := Nat × Nat) (fun s => .pointer (some ⟨s.1, 0, none⟩)) (fun s => w.heap.size ≤ s.1 ∧ w.heap.size ≤ s.2) (fun s => _) trivial rfl rfl (fun ρ w E => ex_call E en_palaver_net_New rfl rfl) call_newN fun s hgn => ?_
    obtain ⟨gn, gm⟩ := s
    dsimp only at hgn ⊢
    refine SxL.val trivial rfl rfl (fun ρ w E H => ex_assign E rfl rfl) ?_
    refine SxL.nil (SxN.then_ (SxC.seq (SxC.region ?_)))
    refine SxL.val trivial rfl rfl (fun ρ w E H => ex_assign E rfl rfl) ?_
    refine SxL.nil (SxN.then_ (SxC.seq (SxC.region ?_)))
    refine SxL.val trivial rfl rfl (fun ρ w E H => ex_assign E rfl rfl) ?_
    refine SxL.nil (SxN.then_ (SxC.seq (SxC.region ?_)))
    refine SxL.newG (σ := Nat) (fun s => .map (some s)) (fun s => w.heap.size ≤ s) (fun s => _) trivial rfl rfl (fun ρ w E H => Hp.newM E H twoV rfl) fun gc hgc => ?_
    refine SxL.val trivial rfl rfl (fun ρ w E H => ex_assign E rfl rfl) ?_
    refine SxL.nil (SxN.then_ (SxC.seq (SxC.region ?_)))
    refine SxL.newG (σ := Nat) (fun s => .map (some s)) (fun s => w.heap.size ≤ s) (fun s => _) trivial rfl rfl (fun ρ w E H => Hp.newM E H twoV rfl) fun gt hgt => ?_
    refine SxL.val trivial rfl rfl (fun ρ w E H => ex_assign E rfl rfl) ?_
    refine SxL.nil (SxN.then_ (SxC.seq (SxC.region ?_)))
    refine SxL.val trivial rfl rfl (fun ρ w E H => ex_assign E rfl rfl) ?_
    refine SxL.nil (SxN.then_ (SxC.seq (SxC.region ?_)))
    refine SxL.val trivial rfl rfl (fun ρ w E H => ex_assign E rfl rfl) ?_
    refine SxL.nil (SxN.then_ (SxC.seq (SxC.seq (SxC.region ?_))))
    refine SxL.val trivial rfl rfl (fun ρ w E H => ex_assign E rfl rfl) ?_
    refine SxL.nil (SxN.then_ (SxC.block ?_))
    refine SxC.hp (fun W H => H.nilRow 57 2) ?_
    refine SxC.hp (fun W H => H.nilRow 3 1) ?_
    refine SxC.loop12 (fun (V : Value) (vL : Value) (vP : Value) (gc : Nat) (i : Nat) (ks : List Nat) (ls : List Nat) (ps : List (Nat × Nat)) (M : CutM) (MC : CutM) (MT : CutM) (db : Bool) => [(0, .slice A l.length c), (3, .pointer (some ⟨gn, 0, none⟩)), (4, vL), (5, vP), (6, .map (some gc)), (7, .map (some gt)), (8, .bool db), (9, .int .i64 ((bagK ps ks).length : Int)), (10, .int .i64 (i : Int))]) (fun (V : Value) (vL : Value) (vP : Value) (gc : Nat) (i : Nat) (ks : List Nat) (ls : List Nat) (ps : List (Nat × Nat)) (M : CutM) (MC : CutM) (MT : CutM) (db : Bool) => [netF w.heap.size gn gm V (bagK ps ks) M, rowX [] w.heap.size 3 1 vL ls.length (ls.flatMap iL), rowX [] w.heap.size 57 2 vP ps.length (ps.flatMap prL), mapF gc twoV MC, mapF gt twoV MT]) (fun (gk : Nat) (V : Value) (vL : Value) (vP : Value) (gc : Nat) (i : Nat) (ks : List Nat) (ls : List Nat) (ps : List (Nat × Nat)) (M : CutM) (MC : CutM) (MT : CutM) (db : Bool) => i + gk = l.length ∧ (∃ tf, KI i ks ls ps M MC MT tf db) ∧ OwnIn w [] V ∧ OwnIn w [] vL ∧ OwnIn w [] vP ∧ w.heap.size ≤ gc) l.length (.slice none 0 0) (.slice none 0 0) (.slice none 0 0) gc 0 ([] : List Nat) ([] : List Nat) ([] : List (Nat × Nat)) ([] : CutM) ([] : CutM) ([] : CutM) false ⟨by omega, ⟨_, KI.start⟩, (fun b hb => by simp [Value.ownBlock] at hb), hnone, hnone, hgc⟩ ⟨rfl, rfl, rfl, rfl, rfl, rfl, rfl, rfl, rfl, trivial⟩ [4, 0, 1, 3, 2] rfl (by decide) ⟨.inl rfl, .inl rfl, .inl rfl, .inl rfl, .inl rfl, trivial⟩ fun gk V vL vP gc i ks ls ps M MC MT db hF => ?_
    obtain ⟨hkg, ⟨tf, hK⟩, hV, hvL, hvP, hgc⟩ := hF
    refine SxC.seq (SxC.seq (SxC.region ?_))
    iterate 2 refine SxL.val trivial rfl rfl (fun ρ w E H => ex_move E rfl rfl) ?_
    refine SxL.val (v := .int .i64 (l.length : Int)) trivial rfl rfl (fun ρ w E H => ex_lenS E rfl Tryz.underlying47 rfl) ?_
    refine SxL.valB trivial rfl rfl (fun ρ w E H => ex_cmp E rfl rfl rfl rfl rfl) fun c27 hc27 => ?_
    refine SxL.nil (SxN.then_ ?_)
    cases c27
    · refine SxC.condF rfl (SxC.exit (SxX.thenE (SxX.thenE (SxX.blockE (SxN.then_ (SxC.seq (SxC.region ?_)))))))
      refine SxL.callB (v := .bool true) trivial rfl rfl (fun ρ w E => ex_call E en_palaver_palaverlaw26_wakes rfl rfl) (fun w H => wakes_any w) ?_
      refine SxL.val trivial rfl rfl (fun ρ w E H => ex_assign E rfl rfl) ?_
      refine SxL.nil (SxN.then_ (SxC.ret ?_))
      refine SxX.done (.bool true) (fun a w K H => res1 K rfl rfl) (fun w H => ?_)
      exact ⟨rfl, H.toBelow ⟨(netF_fresh hgn.1 hgn.2 hV), hvL.fresh, hvP.fresh, (one_fresh hgc), (one_fresh hgt), trivial⟩⟩
    · refine SxC.condT rfl (SxC.skip (SxN.then_ (SxC.seq (SxC.block (SxC.seq ?_)))))
      have hkl : i < l.length := by have h := hc27; simp [cmpB] at h; omega
      have hl2 : l.length ≤ 200 := by have h := hc19; simp [cmpB] at h; omega
      obtain ⟨a, hx⟩ : ∃ a, l[i]? = some a := ⟨_, List.getElem?_eq_getElem hkl⟩
      have hq := hQ a (List.mem_of_getElem? hx)
      obtain ⟨ad, rfl, -, -⟩ := hA.row hx
      obtain ⟨d, f, t, k, ⟨mk, mn, mr, mb, ms, mo, mv, vl, il, ⟨ca, cb, ck, cs, ct, cu, cz⟩, mc, mt⟩, A2, ka, B, kb⟩ := a
      have hk1000 := hK.le (by omega)
      have hby := bagK_bytes (ps := ps) hk1000
      have hb512 : (bagK ps ks).length ≤ 512 := by rw [bagK_len]; have := hK.under; omega
      have hlp := hK.len
      have hpm := hK.many
      have hku := hK.under
      have hbl := bagK_len ps ks
      refine SxC.with (fun W H => own_is_slice (H.get (i := 1) rfl)) ?_
      rintro ⟨AL, cL, rfl⟩
      refine SxC.with (fun W H => own_is_slice (H.get (i := 2) rfl)) ?_
      rintro ⟨AP, cP, rfl⟩
      refine SxC.region ?_
      iterate 2 refine SxL.val trivial rfl rfl (fun ρ w E H => ex_move E rfl rfl) ?_
      refine SxL.val (v := .pointer (some (ad.add (i * 22)))) trivial rfl rfl (fun ρ w E H => ex_index (i := i) E rfl Tryz.underlying47 sz_palaver_palaverlaw26_Act rfl rfl hkl) ?_
      refine SxL.val (v := .agg #[.int .u8 (d : Int), .int .u8 (f : Int), .int .u8 (t : Int), .int .i64 (k), .int .u8 (mk : Int), .int .u64 (mn : Int), .int .u8 (mr : Int), .int .u64 (mb : Int), .int .u64 (ms : Int), .int .u8 (mo : Int), .string ⟨mv.toArray⟩, .slice A2 vl.length ka, .slice B il.length kb, .int .u8 (ca : Int), .int .u32 (cb : Int), .int .u8 (ck : Int), .string ⟨cs.toArray⟩, .string ⟨ct.toArray⟩, .string ⟨cu.toArray⟩, .int .u8 (cz : Int), .int .u8 (mc : Int), .string ⟨mt.toArray⟩]) trivial rfl rfl (fun ρ w E H => ex_loadX (cs := [.int .u8 (d : Int), .int .u8 (f : Int), .int .u8 (t : Int), .int .i64 (k), .int .u8 (mk : Int), .int .u64 (mn : Int), .int .u8 (mr : Int), .int .u64 (mb : Int), .int .u64 (ms : Int), .int .u8 (mo : Int), .string ⟨mv.toArray⟩, .slice A2 vl.length ka, .slice B il.length kb, .int .u8 (ca : Int), .int .u32 (cb : Int), .int .u8 (ck : Int), .string ⟨cs.toArray⟩, .string ⟨ct.toArray⟩, .string ⟨cu.toArray⟩, .int .u8 (cz : Int), .int .u8 (mc : Int), .string ⟨mt.toArray⟩]) E ((hA.below (H.toBelow ⟨(netF_fresh hgn.1 hgn.2 hV), hvL.fresh, hvP.fresh, (one_fresh hgc), (one_fresh hgt), trivial⟩)).rowA hx) rfl rfl Tryz.underlying55 rfl sz_palaver_palaverlaw26_Act) ?_
      refine SxL.new (cs := [.int .u8 0, .int .u8 0, .int .u8 0, .int .i64 0, .int .u8 0, .int .u64 0, .int .u8 0, .int .u64 0, .int .u64 0, .int .u8 0, .string ⟨[].toArray⟩, .slice none 0 0, .slice none 0 0, .int .u8 0, .int .u32 0, .int .u8 0, .string ⟨[].toArray⟩, .string ⟨[].toArray⟩, .string ⟨[].toArray⟩, .int .u8 0, .int .u8 0, .string ⟨[].toArray⟩]) trivial rfl rfl (fun ρ w E H => ex_alloc rfl zr_palaver_palaverlaw26_Act rfl) fun g1 hg1 => ?_
      refine SxL.storeX (i := 0) [.int .u8 (d : Int), .int .u8 (f : Int), .int .u8 (t : Int), .int .i64 (k), .int .u8 (mk : Int), .int .u64 (mn : Int), .int .u8 (mr : Int), .int .u64 (mb : Int), .int .u64 (ms : Int), .int .u8 (mo : Int), .string ⟨mv.toArray⟩, .slice A2 vl.length ka, .slice B il.length kb, .int .u8 (ca : Int), .int .u32 (cb : Int), .int .u8 (ck : Int), .string ⟨cs.toArray⟩, .string ⟨ct.toArray⟩, .string ⟨cu.toArray⟩, .int .u8 (cz : Int), .int .u8 (mc : Int), .string ⟨mt.toArray⟩] trivial rfl rfl rfl rfl rfl sz_palaver_palaverlaw26_Act rfl rfl rfl (putL_all _ _ rfl) ?_
      refine SxL.nil (SxN.then_ (SxC.seq (SxC.region ?_)))
      refine SxL.val (v := .pointer (some ⟨g1, 1, none⟩)) trivial rfl rfl (fun ρ w E H => ex_field E rfl fa_palaver_palaverlaw26_Act_1 rfl rfl) ?_
      refine SxL.val trivial rfl rfl (fun ρ w E H => ex_load1 E (H.get (i := 0) rfl) rfl rfl Tryz.underlying5 rfl rfl) ?_
      refine SxL.val (v := .pointer (some ⟨g1, 2, none⟩)) trivial rfl rfl (fun ρ w E H => ex_field E rfl fa_palaver_palaverlaw26_Act_2 rfl rfl) ?_
      refine SxL.val trivial rfl rfl (fun ρ w E H => ex_load1 E (H.get (i := 0) rfl) rfl rfl Tryz.underlying5 rfl rfl) ?_
      refine SxL.val trivial rfl rfl (fun ρ w E H => ex_build (cs := [.int .u8 (f : Int), .int .u8 (t : Int)]) E rfl rfl (by kernel_rfl)) ?_
      refine SxL.new (cs := [.int .u8 0, .int .u8 0]) trivial rfl rfl (fun ρ w E H => ex_alloc rfl zr_palaver_net_Pair rfl) fun g2 hg2 => ?_
      refine SxL.storeX (i := 0) [.int .u8 (f : Int), .int .u8 (t : Int)] trivial rfl rfl rfl rfl rfl sz_palaver_net_Pair rfl rfl rfl (putL_all _ _ rfl) ?_
      refine SxL.nil (SxN.then_ (SxC.seq (SxC.seq (SxC.region ?_))))
      refine SxL.val (v := .pointer (some ⟨g1, 0, none⟩)) trivial rfl rfl (fun ρ w E H => ex_field E rfl fa_palaver_palaverlaw26_Act_0 rfl rfl) ?_
      refine SxL.val trivial rfl rfl (fun ρ w E H => ex_load1 E (H.get (i := 1) rfl) rfl rfl Tryz.underlying5 rfl rfl) ?_
      refine SxL.nil (SxN.then_ (SxC.block (SxC.seq (SxC.region ?_))))
      refine SxL.valB trivial rfl rfl (fun ρ w E H => ex_cmp E rfl rfl rfl rfl rfl) fun c70 hc70 => ?_
      refine SxL.val trivial rfl rfl (fun ρ w E H => ex_assign E rfl rfl) ?_
      refine SxL.nil (SxN.then_ ?_)
      cases c70
      · refine SxC.condF rfl (SxC.seq (SxC.region ?_))
        refine SxL.valB trivial rfl rfl (fun ρ w E H => ex_cmp E rfl rfl rfl rfl rfl) fun c163 hc163 => ?_
        refine SxL.val trivial rfl rfl (fun ρ w E H => ex_assign E rfl rfl) ?_
        refine SxL.nil (SxN.then_ ?_)
        cases c163
        · refine SxC.condF rfl (SxC.seq (SxC.region ?_))
          refine SxL.valB trivial rfl rfl (fun ρ w E H => ex_cmp E rfl rfl rfl rfl rfl) fun c176 hc176 => ?_
          refine SxL.val trivial rfl rfl (fun ρ w E H => ex_assign E rfl rfl) ?_
          refine SxL.nil (SxN.then_ ?_)
          cases c176
          · refine SxC.condF rfl (SxC.seq (SxC.region ?_))
            refine SxL.valB trivial rfl rfl (fun ρ w E H => ex_cmp E rfl rfl rfl rfl rfl) fun c193 hc193 => ?_
            refine SxL.val trivial rfl rfl (fun ρ w E H => ex_assign E rfl rfl) ?_
            refine SxL.nil (SxN.then_ ?_)
            cases c193
            · refine SxC.condF rfl (SxC.seq (SxC.region ?_))
              refine SxL.valB trivial rfl rfl (fun ρ w E H => ex_cmp E rfl rfl rfl rfl rfl) fun c210 hc210 => ?_
              refine SxL.val trivial rfl rfl (fun ρ w E H => ex_assign E rfl rfl) ?_
              refine SxL.nil (SxN.then_ ?_)
              cases c210
              · refine SxC.condF rfl (SxC.seq (SxC.region ?_))
                refine SxL.val trivial rfl rfl (fun ρ w E H => ex_move E rfl rfl) ?_
                refine SxL.val (v := .int .i64 (ls.length : Int)) trivial rfl rfl (fun ρ w E H => ex_lenS E rfl Tryz.underlying50 rfl) ?_
                refine SxL.val (v := .int .u64 (ls.length : Int)) trivial rfl rfl (fun ρ w E H => ex_convInt E rfl Tryz.underlying3 Tryz.underlying22 rfl (by rw [IntKind.wrap_u64]; omega)) ?_
                refine SxL.val trivial rfl rfl (fun ρ w E H => ex_assign E rfl rfl) ?_
                refine SxL.nil (SxN.then_ (SxC.seq (SxC.region ?_)))
                refine SxL.val trivial rfl rfl (fun ρ w E H => ex_move E rfl rfl) ?_
                refine SxL.newS (cs := [.int .i64 0]) trivial rfl rfl (fun ρ w E H => ex_buildSlice E rfl rfl Tryz.underlying50 sz_int zr_int rfl rfl (by kernel_rfl)) fun g3 hg3 => ?_
                refine SxL.append (i := 4) (news := [.int .i64 0]) trivial rfl rfl rfl Tryz.underlying50 nf_int rfl rfl rfl rfl hvL rfl (fun w H => reads_cell H (i := 0) rfl rfl) (one_list rfl) (by unfold maxLen; omega) (by omega) (Nat.le_refl _) fun A46 k46 hv46 => ?_
                refine SxL.val trivial rfl rfl (fun ρ w E H => ex_assign E rfl rfl) ?_
                refine SxL.nil (SxN.then_ (SxC.seq (SxC.region ?_)))
                refine SxL.val trivial rfl rfl (fun ρ w E H => ex_move E rfl rfl) ?_
                refine SxL.val trivial rfl rfl (fun ρ w E H => ex_load (part := [.int .u8 (f : Int), .int .u8 (t : Int)]) E (H.get (i := 1) rfl) rfl rfl Tryz.underlying57 rfl sz_palaver_net_Pair rfl rfl) ?_
                refine SxL.newS (cs := [.int .u8 (f : Int), .int .u8 (t : Int)]) trivial rfl rfl (fun ρ w E H => ex_buildSlice E rfl rfl Tryz.underlying51 sz_palaver_net_Pair zr_palaver_net_Pair rfl rfl (by kernel_rfl)) fun g4 hg4 => ?_
                refine SxL.append (i := 6) (news := [.int .u8 (f : Int), .int .u8 (t : Int)]) trivial rfl rfl rfl Tryz.underlying51 nf_palaver_net_Pair rfl rfl rfl rfl hvP rfl (fun w H => reads_cell H (i := 0) rfl rfl) (one_list rfl) (by unfold maxLen; omega) (by omega) (Nat.le_refl _) fun A50 k50 hv50 => ?_
                refine SxL.val trivial rfl rfl (fun ρ w E H => ex_assign E rfl rfl) ?_
                refine SxL.nil (SxN.then_ (SxC.seq ?_))
                refine SxC.hp (fun W H => H.re (i := 5) rfl (rowX [] w.heap.size 3 1 (.slice A46 (ls.length + 1) k46) ((ls ++ [0]).length) ((ls ++ [0]).flatMap iL)) (rowX_loc _ _ _ _ _ _ _) rfl (fun h => own_as h (by simp) (by simp [iL]))) ?_
                refine SxC.hp (fun W H => H.re (i := 6) rfl (rowX [] w.heap.size 57 2 (.slice A50 (ps.length + 1) k50) ((ps ++ [(f, t)]).length) ((ps ++ [(f, t)]).flatMap prL)) (rowX_loc _ _ _ _ _ _ _) rfl (fun h => own_as h (by simp) (by simp [prL]))) ?_
                have hlt := hK.lt
                have hps := bagK_snoc (p := (f, t)) hlt
                have hpr : prAt (ps ++ [(f, t)]) ls.length = (f, t) := by rw [hlp]; exact prAt_last ps (f, t)
                rw [← hps]
                rcases send_keeps (ps ++ [(f, t)]) ks (f, t) ls.length (by omega) (by omega) hpr with ⟨tc, htc0, htc1, htk⟩ | htk
                · have hbl2 := bagK_len (ps ++ [(f, t)]) ks
                  have hbe : (bagK (ps ++ [(f, t)]) ks).length = (bagK ps ks).length := by rw [hps]
                  refine SxC.drawnK [] [0, 1, 2, 3, 5, 6, 7, 8] (by kernel_rfl) rfl ⟨(fun g hg => by rw [List.mem_singleton.1 hg]; exact .inr hg4), (fun g hg => by rw [List.mem_singleton.1 hg]; exact .inr hg3), (fun g hg => by rw [List.mem_singleton.1 hg]; exact .inr hg2), (fun g hg => by rw [List.mem_singleton.1 hg]; exact .inr hg1), (fun g hg => .inr ((netF_fresh hgn.1 hgn.2 hV) g hg)), (fun g hg => .inr (hv46.fresh g hg)), (fun g hg => .inr (hv50.fresh g hg)), (fun g hg => .inr ((one_fresh hgc) g hg)), (fun g hg => .inr ((one_fresh hgt) g hg)), trivial⟩ ?_
                  refine SxA.take (i := 0) rfl (by kernel_rfl) (by kernel_rfl) (by kernel_rfl) rfl rfl (fun _ _ _ h => h) trivial (fun ρ w E H => ex_move E rfl rfl) ?_
                  refine SxA.take (i := 1) (v := .pointer (some ⟨g1, 1, none⟩)) rfl (by kernel_rfl) (by kernel_rfl) (by kernel_rfl) rfl rfl (fun _ _ _ h => h) trivial (fun ρ w E H => ex_field E rfl fa_palaver_palaverlaw26_Act_1 rfl rfl) ?_
                  refine SxA.take (i := 2) rfl (by kernel_rfl) (by kernel_rfl) (by kernel_rfl) rfl rfl (fun _ _ _ h => h) trivial (fun ρ w E H => ex_load1 E (H.get (i := 3) rfl) rfl rfl Tryz.underlying5 rfl rfl) ?_
                  refine SxA.take (i := 3) (v := .pointer (some ⟨g1, 2, none⟩)) rfl (by kernel_rfl) (by kernel_rfl) (by kernel_rfl) rfl rfl (fun _ _ _ h => h) trivial (fun ρ w E H => ex_field E rfl fa_palaver_palaverlaw26_Act_2 rfl rfl) ?_
                  refine SxA.take (i := 4) rfl (by kernel_rfl) (by kernel_rfl) (by kernel_rfl) rfl rfl (fun _ _ _ h => h) trivial (fun ρ w E H => ex_load1 E (H.get (i := 3) rfl) rfl rfl Tryz.underlying5 rfl rfl) ?_
                  refine SxA.take (i := 5) rfl (by kernel_rfl) (by kernel_rfl) (by kernel_rfl) rfl rfl (fun _ _ _ h => h) trivial (fun ρ w E H => ex_move E rfl rfl) ?_
                  refine SxA.ready [6] (by kernel_rfl) (by simp) ⟨?_, trivial⟩
                  refine SxO.callB (v := .agg #[.int .u8 10, .int .u64 0, .int .u8 0, .int .u64 0, .int .u64 (ls.length : Int), .int .u8 0, .string ⟨[].toArray⟩, .slice none 0 0, .slice none 0 0, .int .u8 0, .int .u32 0, .int .u8 0, .string ⟨[].toArray⟩, .string ⟨[].toArray⟩, .string ⟨[].toArray⟩, .int .u8 0, .int .u8 0, .string ⟨[].toArray⟩]) rfl trivial rfl rfl (fun ρ w E => ex_call E en_palaver_palaverlaw26_ask rfl rfl) (fun w H => ask_any ls.length w) (fun w H => H.ks [] [0, 1, 2, 3, 5, 6, 7, 8] rfl ⟨(fun g hg => by rw [List.mem_singleton.1 hg]; exact .inr hg4), (fun g hg => by rw [List.mem_singleton.1 hg]; exact .inr hg3), (fun g hg => by rw [List.mem_singleton.1 hg]; exact .inr hg2), (fun g hg => by rw [List.mem_singleton.1 hg]; exact .inr hg1), (fun g hg => .inr ((netF_fresh hgn.1 hgn.2 hV) g hg)), (fun g hg => .inr (hv46.fresh g hg)), (fun g hg => .inr (hv50.fresh g hg)), (fun g hg => .inr ((one_fresh hgc) g hg)), (fun g hg => .inr ((one_fresh hgt) g hg)), trivial⟩) ?_
                  refine SxA.take (i := 7) rfl (by kernel_rfl) (by kernel_rfl) (by kernel_rfl) rfl rfl (fun _ _ _ h => h) trivial (fun ρ w E H => ex_build (cs := [.int .u8 (f : Int), .int .u8 (t : Int), .int .u8 10, .int .u64 0, .int .u8 0, .int .u64 0, .int .u64 (ls.length : Int), .int .u8 0, .string ⟨[].toArray⟩, .slice none 0 0, .slice none 0 0, .int .u8 0, .int .u32 0, .int .u8 0, .string ⟨[].toArray⟩, .string ⟨[].toArray⟩, .string ⟨[].toArray⟩, .int .u8 0, .int .u8 0, .string ⟨[].toArray⟩]) E rfl rfl (by kernel_rfl)) ?_
                  refine SxA.ready [8] (by kernel_rfl) (by simp) ⟨?_, trivial⟩
                  refine SxO.call (σ := Value) (fun _ => .int .i64 (tc : Int)) (fun s => OwnIn w [] s) (fun s => _) rfl trivial rfl rfl (fun ρ w E => ex_call E en_palaver_net_Net_Send rfl rfl) (callNet (i := 4) (bag' := (bagK (ps ++ [(f, t)]) ks)) (M' := M) rfl hV (fun W H => (send_any _ _ _ _ _ _ f t (askM ls.length) none none 0 0 W (H.get (i := 4) rfl) (by rw [hps]; exact hb512) H.os.size (ask_fits _ (by omega)) ((ask_lim _).small (ask_fits _ (by omega))) (none_rows W _ rfl rfl)).mono fun _ _ h => by rw [htk] at h; exact h)) (fun V59 w hV59 H => H.ks [] [0, 1, 2, 3, 5, 6, 7, 8] rfl ⟨(fun g hg => by rw [List.mem_singleton.1 hg]; exact .inr hg4), (fun g hg => by rw [List.mem_singleton.1 hg]; exact .inr hg3), (fun g hg => by rw [List.mem_singleton.1 hg]; exact .inr hg2), (fun g hg => by rw [List.mem_singleton.1 hg]; exact .inr hg1), (fun g hg => .inr ((netF_fresh hgn.1 hgn.2 hV59) g hg)), (fun g hg => .inr (hv46.fresh g hg)), (fun g hg => .inr (hv50.fresh g hg)), (fun g hg => .inr ((one_fresh hgc) g hg)), (fun g hg => .inr ((one_fresh hgt) g hg)), trivial⟩) fun V59 hV59 => ?_
                  refine SxA.take (i := 9) (v := .bool false) rfl (by kernel_rfl) (by kernel_rfl) (by kernel_rfl) rfl rfl (fun _ _ _ h => h) trivial (fun ρ w E H => ex_cmp E rfl rfl rfl rfl (by simp [cmpB]; omega)) ?_
                  refine SxA.done (by kernel_rfl) ?_
                  refine SxN.then_ (SxC.condF rfl (SxC.skip (SxN.block (SxN.then_ (SxC.seq (SxC.region ?_))))))
                  refine SxL.val trivial rfl rfl (fun ρ w E H => ex_move E rfl rfl) ?_
                  refine SxL.callB (v := .int .i64 ((bagK (ps ++ [(f, t)]) ks).length : Int)) trivial rfl rfl (fun ρ w E => ex_call E en_palaver_net_Net_Len rfl rfl) (fun w H => len_any _ _ _ _ (bagK (ps ++ [(f, t)]) ks) _ w (H.get (i := 4) rfl)) ?_
                  refine SxL.val trivial rfl rfl (fun ρ w E H => ex_move E rfl rfl) ?_
                  refine SxL.val (v := .bool false) trivial rfl rfl (fun ρ w E H => ex_cmp E rfl rfl rfl rfl (by simp only [cmpB]; first | (rw [hbe]; simp; done) | (simp; done) | (rw [hbe]; simp; omega))) ?_
                  refine SxL.nil (SxN.then_ (SxC.condF rfl (SxC.skip (SxN.block (SxN.then_ (SxC.region ?_))))))
                  refine SxL.val trivial rfl rfl (fun ρ w E H => ex_move E rfl rfl) ?_
                  refine SxL.val (v := .int .i64 ((i + 1 : Nat) : Int)) trivial rfl rfl (fun ρ w E H => ex_add E rfl rfl rfl (by rw [IntKind.wrap_i64]; omega)) ?_
                  refine SxL.val trivial rfl rfl (fun ρ w E H => ex_assign E rfl rfl) ?_
                  refine SxL.nil ?_
                  refine SxN.back (gk - 1) (V59, (.slice A46 (ls.length + 1) k46), (.slice A50 (ps.length + 1) k50), gc, (i + 1), ks, (ls ++ [0]), (ps ++ [(f, t)]), M, MC, MT, db) (by omega) ⟨show i + 1 + (gk - 1) = l.length by omega, ⟨_, hK.unsent (f, t)⟩, hV59, hv46, hv50, hgc⟩ ⟨rfl, rfl, rfl, rfl, rfl, rfl, rfl, rfl, rfl, trivial⟩ [4, 5, 6, 7, 8] rfl (by decide) ⟨.inr (fun g hg => by rw [List.mem_singleton.1 hg]; exact hg4), .inr (fun g hg => by rw [List.mem_singleton.1 hg]; exact hg3), .inr (fun g hg => by rw [List.mem_singleton.1 hg]; exact hg2), .inr (fun g hg => by rw [List.mem_singleton.1 hg]; exact hg1), .inl rfl, .inl rfl, .inl rfl, .inl rfl, .inl rfl, trivial⟩
                · have hbl2 := bagK_len (ps ++ [(f, t)]) ks
                  have hbe : (bagK (ps ++ [(f, t)]) (ks ++ [ls.length])).length = ks.length + 1 := by rw [bagK_len, List.length_append, List.length_singleton]
                  refine SxC.drawnK [] [0, 1, 2, 3, 5, 6, 7, 8] (by kernel_rfl) rfl ⟨(fun g hg => by rw [List.mem_singleton.1 hg]; exact .inr hg4), (fun g hg => by rw [List.mem_singleton.1 hg]; exact .inr hg3), (fun g hg => by rw [List.mem_singleton.1 hg]; exact .inr hg2), (fun g hg => by rw [List.mem_singleton.1 hg]; exact .inr hg1), (fun g hg => .inr ((netF_fresh hgn.1 hgn.2 hV) g hg)), (fun g hg => .inr (hv46.fresh g hg)), (fun g hg => .inr (hv50.fresh g hg)), (fun g hg => .inr ((one_fresh hgc) g hg)), (fun g hg => .inr ((one_fresh hgt) g hg)), trivial⟩ ?_
                  refine SxA.take (i := 0) rfl (by kernel_rfl) (by kernel_rfl) (by kernel_rfl) rfl rfl (fun _ _ _ h => h) trivial (fun ρ w E H => ex_move E rfl rfl) ?_
                  refine SxA.take (i := 1) (v := .pointer (some ⟨g1, 1, none⟩)) rfl (by kernel_rfl) (by kernel_rfl) (by kernel_rfl) rfl rfl (fun _ _ _ h => h) trivial (fun ρ w E H => ex_field E rfl fa_palaver_palaverlaw26_Act_1 rfl rfl) ?_
                  refine SxA.take (i := 2) rfl (by kernel_rfl) (by kernel_rfl) (by kernel_rfl) rfl rfl (fun _ _ _ h => h) trivial (fun ρ w E H => ex_load1 E (H.get (i := 3) rfl) rfl rfl Tryz.underlying5 rfl rfl) ?_
                  refine SxA.take (i := 3) (v := .pointer (some ⟨g1, 2, none⟩)) rfl (by kernel_rfl) (by kernel_rfl) (by kernel_rfl) rfl rfl (fun _ _ _ h => h) trivial (fun ρ w E H => ex_field E rfl fa_palaver_palaverlaw26_Act_2 rfl rfl) ?_
                  refine SxA.take (i := 4) rfl (by kernel_rfl) (by kernel_rfl) (by kernel_rfl) rfl rfl (fun _ _ _ h => h) trivial (fun ρ w E H => ex_load1 E (H.get (i := 3) rfl) rfl rfl Tryz.underlying5 rfl rfl) ?_
                  refine SxA.take (i := 5) rfl (by kernel_rfl) (by kernel_rfl) (by kernel_rfl) rfl rfl (fun _ _ _ h => h) trivial (fun ρ w E H => ex_move E rfl rfl) ?_
                  refine SxA.ready [6] (by kernel_rfl) (by simp) ⟨?_, trivial⟩
                  refine SxO.callB (v := .agg #[.int .u8 10, .int .u64 0, .int .u8 0, .int .u64 0, .int .u64 (ls.length : Int), .int .u8 0, .string ⟨[].toArray⟩, .slice none 0 0, .slice none 0 0, .int .u8 0, .int .u32 0, .int .u8 0, .string ⟨[].toArray⟩, .string ⟨[].toArray⟩, .string ⟨[].toArray⟩, .int .u8 0, .int .u8 0, .string ⟨[].toArray⟩]) rfl trivial rfl rfl (fun ρ w E => ex_call E en_palaver_palaverlaw26_ask rfl rfl) (fun w H => ask_any ls.length w) (fun w H => H.ks [] [0, 1, 2, 3, 5, 6, 7, 8] rfl ⟨(fun g hg => by rw [List.mem_singleton.1 hg]; exact .inr hg4), (fun g hg => by rw [List.mem_singleton.1 hg]; exact .inr hg3), (fun g hg => by rw [List.mem_singleton.1 hg]; exact .inr hg2), (fun g hg => by rw [List.mem_singleton.1 hg]; exact .inr hg1), (fun g hg => .inr ((netF_fresh hgn.1 hgn.2 hV) g hg)), (fun g hg => .inr (hv46.fresh g hg)), (fun g hg => .inr (hv50.fresh g hg)), (fun g hg => .inr ((one_fresh hgc) g hg)), (fun g hg => .inr ((one_fresh hgt) g hg)), trivial⟩) ?_
                  refine SxA.take (i := 7) rfl (by kernel_rfl) (by kernel_rfl) (by kernel_rfl) rfl rfl (fun _ _ _ h => h) trivial (fun ρ w E H => ex_build (cs := [.int .u8 (f : Int), .int .u8 (t : Int), .int .u8 10, .int .u64 0, .int .u8 0, .int .u64 0, .int .u64 (ls.length : Int), .int .u8 0, .string ⟨[].toArray⟩, .slice none 0 0, .slice none 0 0, .int .u8 0, .int .u32 0, .int .u8 0, .string ⟨[].toArray⟩, .string ⟨[].toArray⟩, .string ⟨[].toArray⟩, .int .u8 0, .int .u8 0, .string ⟨[].toArray⟩]) E rfl rfl (by kernel_rfl)) ?_
                  refine SxA.ready [8] (by kernel_rfl) (by simp) ⟨?_, trivial⟩
                  refine SxO.call (σ := Value) (fun _ => .int .i64 0) (fun s => OwnIn w [] s) (fun s => _) rfl trivial rfl rfl (fun ρ w E => ex_call E en_palaver_net_Net_Send rfl rfl) (callNet (i := 4) (bag' := (bagK (ps ++ [(f, t)]) (ks ++ [ls.length]))) (M' := M) rfl hV (fun W H => (send_any _ _ _ _ _ _ f t (askM ls.length) none none 0 0 W (H.get (i := 4) rfl) (by rw [hps]; exact hb512) H.os.size (ask_fits _ (by omega)) ((ask_lim _).small (ask_fits _ (by omega))) (none_rows W _ rfl rfl)).mono fun _ _ h => by rw [htk] at h; exact h)) (fun V59 w hV59 H => H.ks [] [0, 1, 2, 3, 5, 6, 7, 8] rfl ⟨(fun g hg => by rw [List.mem_singleton.1 hg]; exact .inr hg4), (fun g hg => by rw [List.mem_singleton.1 hg]; exact .inr hg3), (fun g hg => by rw [List.mem_singleton.1 hg]; exact .inr hg2), (fun g hg => by rw [List.mem_singleton.1 hg]; exact .inr hg1), (fun g hg => .inr ((netF_fresh hgn.1 hgn.2 hV59) g hg)), (fun g hg => .inr (hv46.fresh g hg)), (fun g hg => .inr (hv50.fresh g hg)), (fun g hg => .inr ((one_fresh hgc) g hg)), (fun g hg => .inr ((one_fresh hgt) g hg)), trivial⟩) fun V59 hV59 => ?_
                  refine SxA.take (i := 9) (v := .bool true) rfl (by kernel_rfl) (by kernel_rfl) (by kernel_rfl) rfl rfl (fun _ _ _ h => h) trivial (fun ρ w E H => ex_cmp E rfl rfl rfl rfl (by decide)) ?_
                  refine SxA.done (by kernel_rfl) ?_
                  refine SxN.then_ (SxC.condT rfl (SxC.seq ?_))
                  refine SxC.with (fun W H => own_some (H.get (i := 5) rfl) (by simp)) ?_
                  rintro ⟨gl, rfl⟩
                  have hl0 : (ls ++ [0])[ls.length]? = some 0 := by rw [List.getElem?_append_right (Nat.le_refl _), Nat.sub_self]; rfl
                  refine SxC.region ?_
                  iterate 2 refine SxL.val trivial rfl rfl (fun ρ w E H => ex_move E rfl rfl) ?_
                  refine SxL.val (v := .pointer (some ((⟨gl, 0, none⟩ : Addr).add (ls.length * 1)))) trivial rfl rfl (fun ρ w E H => ex_index (i := ls.length) E rfl Tryz.underlying50 sz_int rfl rfl (by simp)) ?_
                  refine SxL.val (v := .int .i64 ((0 : Nat) : Int)) trivial rfl rfl (fun ρ w E H => ex_loadX0 E ((own_readE iL_len (by decide) (H.get (i := 5) rfl)).rowA hl0) rfl rfl rfl Tryz.underlying3 rfl) ?_
                  refine SxL.val (v := .int .i64 ((1 : Nat) : Int)) trivial rfl rfl (fun ρ w E H => ex_add E rfl rfl rfl (by decide)) ?_
                  refine SxL.val (v := .pointer (some ((⟨gl, 0, none⟩ : Addr).add (ls.length * 1)))) trivial rfl rfl (fun ρ w E H => ex_index (i := ls.length) E rfl Tryz.underlying50 sz_int rfl rfl (by simp)) ?_
                  refine SxL.skipG _ trivial rfl (fun ρ w E H => Hp.storeEl (cells := iL) (l := (ls ++ [0])) (y := 1) (k := ls.length) (i := 5) iL_len E H rfl rfl rfl rfl (by simp) sz_int rfl rfl) ?_
                  refine SxL.nil (SxN.then_ ?_)
                  refine SxC.hp (fun W H => H.re (i := 5) rfl (rowX [] w.heap.size 3 1 (.slice (some ⟨gl, 0, none⟩) (ls.length + 1) k46) ((ls ++ [1]).length) ((ls ++ [1]).flatMap iL)) (rowX_loc _ _ _ _ _ _ _) rfl (fun h => own_as h (by rw [set_snocN]) (by rw [set_snocN]))) ?_
                  refine SxC.region ?_
                  refine SxL.val trivial rfl rfl (fun ρ w E H => ex_move E rfl rfl) ?_
                  refine SxL.val (v := .int .i64 ((bagK (ps ++ [(f, t)]) (ks ++ [ls.length])).length : Int)) trivial rfl rfl (fun ρ w E H => ex_add E rfl rfl rfl (by rw [IntKind.wrap_i64]; omega)) ?_
                  refine SxL.val trivial rfl rfl (fun ρ w E H => ex_assign E rfl rfl) ?_
                  refine SxL.nil (SxN.block (SxN.then_ (SxC.seq (SxC.region ?_))))
                  refine SxL.val trivial rfl rfl (fun ρ w E H => ex_move E rfl rfl) ?_
                  refine SxL.callB (v := .int .i64 ((bagK (ps ++ [(f, t)]) (ks ++ [ls.length])).length : Int)) trivial rfl rfl (fun ρ w E => ex_call E en_palaver_net_Net_Len rfl rfl) (fun w H => len_any _ _ _ _ (bagK (ps ++ [(f, t)]) (ks ++ [ls.length])) _ w (H.get (i := 4) rfl)) ?_
                  refine SxL.val trivial rfl rfl (fun ρ w E H => ex_move E rfl rfl) ?_
                  refine SxL.val (v := .bool false) trivial rfl rfl (fun ρ w E H => ex_cmp E rfl rfl rfl rfl (by simp only [cmpB]; first | (rw [hbe]; simp; done) | (simp; done) | (rw [hbe]; simp; omega))) ?_
                  refine SxL.nil (SxN.then_ (SxC.condF rfl (SxC.skip (SxN.block (SxN.then_ (SxC.region ?_))))))
                  refine SxL.val trivial rfl rfl (fun ρ w E H => ex_move E rfl rfl) ?_
                  refine SxL.val (v := .int .i64 ((i + 1 : Nat) : Int)) trivial rfl rfl (fun ρ w E H => ex_add E rfl rfl rfl (by rw [IntKind.wrap_i64]; omega)) ?_
                  refine SxL.val trivial rfl rfl (fun ρ w E H => ex_assign E rfl rfl) ?_
                  refine SxL.nil ?_
                  refine SxN.back (gk - 1) (V59, (.slice (some ⟨gl, 0, none⟩) (ls.length + 1) k46), (.slice A50 (ps.length + 1) k50), gc, (i + 1), (ks ++ [ls.length]), (ls ++ [1]), (ps ++ [(f, t)]), M, MC, MT, db) (by omega) ⟨show i + 1 + (gk - 1) = l.length by omega, ⟨_, hK.sent (f, t)⟩, hV59, hv46, hv50, hgc⟩ ⟨rfl, rfl, rfl, rfl, rfl, rfl, rfl, rfl, rfl, trivial⟩ [4, 5, 6, 7, 8] rfl (by decide) ⟨.inr (fun g hg => by rw [List.mem_singleton.1 hg]; exact hg4), .inr (fun g hg => by rw [List.mem_singleton.1 hg]; exact hg3), .inr (fun g hg => by rw [List.mem_singleton.1 hg]; exact hg2), .inr (fun g hg => by rw [List.mem_singleton.1 hg]; exact hg1), .inl rfl, .inl rfl, .inl rfl, .inl rfl, .inl rfl, trivial⟩
              · refine SxC.condT rfl (SxC.seq (SxC.region ?_))
                refine SxL.val trivial rfl rfl (fun ρ w E H => ex_move E rfl rfl) ?_
                refine SxL.call (σ := Value) (fun _ => .int .i64 0) (fun s => OwnIn w [] s) (fun s => _) trivial rfl rfl (fun ρ w E => ex_call E en_palaver_net_Net_Heal rfl rfl) (callNet (i := 2) (bag' := (bagK ps ks)) (M' := ([] : CutM)) rfl hV (fun W H => heal_any _ _ _ _ _ _ W (H.get (i := 2) rfl))) fun V212 hV212 => ?_
                refine SxL.nil (SxN.then_ (SxC.region ?_))
                refine SxL.newG (σ := Nat) (fun s => .map (some s)) (fun s => w.heap.size ≤ s) (fun s => _) trivial rfl rfl (fun ρ w E H => Hp.newM E H twoV rfl) fun gc2 hgc2 => ?_
                refine SxL.val trivial rfl rfl (fun ρ w E H => ex_assign E rfl rfl) ?_
                refine SxL.nil (SxN.block (SxN.then_ (SxC.seq (SxC.region ?_))))
                refine SxL.val trivial rfl rfl (fun ρ w E H => ex_move E rfl rfl) ?_
                refine SxL.callB (v := .int .i64 ((bagK ps ks).length : Int)) trivial rfl rfl (fun ρ w E => ex_call E en_palaver_net_Net_Len rfl rfl) (fun w H => len_any _ _ _ _ (bagK ps ks) _ w (H.get (i := 3) rfl)) ?_
                refine SxL.val trivial rfl rfl (fun ρ w E H => ex_move E rfl rfl) ?_
                refine SxL.val (v := .bool false) trivial rfl rfl (fun ρ w E H => ex_cmp E rfl rfl rfl rfl (by simp only [cmpB]; first | (rw [hbe]; simp; done) | (simp; done) | (rw [hbe]; simp; omega))) ?_
                refine SxL.nil (SxN.then_ (SxC.condF rfl (SxC.skip (SxN.block (SxN.then_ (SxC.region ?_))))))
                refine SxL.val trivial rfl rfl (fun ρ w E H => ex_move E rfl rfl) ?_
                refine SxL.val (v := .int .i64 ((i + 1 : Nat) : Int)) trivial rfl rfl (fun ρ w E H => ex_add E rfl rfl rfl (by rw [IntKind.wrap_i64]; omega)) ?_
                refine SxL.val trivial rfl rfl (fun ρ w E H => ex_assign E rfl rfl) ?_
                refine SxL.nil ?_
                refine SxN.back (gk - 1) (V212, (.slice AL ls.length cL), (.slice AP ps.length cP), gc2, (i + 1), ks, ls, ps, ([] : CutM), ([] : CutM), MT, db) (by omega) ⟨show i + 1 + (gk - 1) = l.length by omega, ⟨_, hK.heal⟩, hV212, hvL, hvP, hgc2⟩ ⟨rfl, rfl, rfl, rfl, rfl, rfl, rfl, rfl, rfl, trivial⟩ [3, 4, 5, 0, 7] rfl (by decide) ⟨.inl rfl, .inr (fun g hg => by rw [List.mem_singleton.1 hg]; exact hg2), .inr (fun g hg => by rw [List.mem_singleton.1 hg]; exact hg1), .inl rfl, .inl rfl, .inl rfl, .inr ((one_fresh hgc)), .inl rfl, trivial⟩
            · refine SxC.condT rfl (SxC.seq ?_)
              rcases hap : apartB f t with _ | _
              · refine SxC.region ?_
                refine SxL.val trivial rfl rfl (fun ρ w E H => ex_move E rfl rfl) ?_
                refine SxL.val (v := .pointer (some ⟨g1, 1, none⟩)) trivial rfl rfl (fun ρ w E H => ex_field E rfl fa_palaver_palaverlaw26_Act_1 rfl rfl) ?_
                refine SxL.val trivial rfl rfl (fun ρ w E H => ex_load1 E (H.get (i := 1) rfl) rfl rfl Tryz.underlying5 rfl rfl) ?_
                refine SxL.val (v := .pointer (some ⟨g1, 2, none⟩)) trivial rfl rfl (fun ρ w E H => ex_field E rfl fa_palaver_palaverlaw26_Act_2 rfl rfl) ?_
                refine SxL.val trivial rfl rfl (fun ρ w E H => ex_load1 E (H.get (i := 1) rfl) rfl rfl Tryz.underlying5 rfl rfl) ?_
                refine SxL.call (σ := Value) (fun _ => .int .i64 2) (fun s => OwnIn w [] s) (fun s => _) trivial rfl rfl (fun ρ w E => ex_call E en_palaver_net_Net_Cut rfl rfl) (callNet (i := 2) (bag' := (bagK ps ks)) (M' := M) rfl hV (fun W H => (cut_any _ _ _ _ _ _ f t W (H.get (i := 2) rfl)).mono fun _ _ h => by rw [hap] at h; exact h)) fun V199 hV199 => ?_
                refine SxL.val (v := .bool false) trivial rfl rfl (fun ρ w E H => ex_cmp E rfl rfl rfl rfl (by decide)) ?_
                refine SxL.nil (SxN.then_ (SxC.condF rfl (SxC.skip (SxN.block (SxN.then_ (SxC.seq (SxC.region ?_)))))))
                refine SxL.val trivial rfl rfl (fun ρ w E H => ex_move E rfl rfl) ?_
                refine SxL.callB (v := .int .i64 ((bagK ps ks).length : Int)) trivial rfl rfl (fun ρ w E => ex_call E en_palaver_net_Net_Len rfl rfl) (fun w H => len_any _ _ _ _ (bagK ps ks) _ w (H.get (i := 2) rfl)) ?_
                refine SxL.val trivial rfl rfl (fun ρ w E H => ex_move E rfl rfl) ?_
                refine SxL.val (v := .bool false) trivial rfl rfl (fun ρ w E H => ex_cmp E rfl rfl rfl rfl (by simp only [cmpB]; first | (rw [hbe]; simp; done) | (simp; done) | (rw [hbe]; simp; omega))) ?_
                refine SxL.nil (SxN.then_ (SxC.condF rfl (SxC.skip (SxN.block (SxN.then_ (SxC.region ?_))))))
                refine SxL.val trivial rfl rfl (fun ρ w E H => ex_move E rfl rfl) ?_
                refine SxL.val (v := .int .i64 ((i + 1 : Nat) : Int)) trivial rfl rfl (fun ρ w E H => ex_add E rfl rfl rfl (by rw [IntKind.wrap_i64]; omega)) ?_
                refine SxL.val trivial rfl rfl (fun ρ w E H => ex_assign E rfl rfl) ?_
                refine SxL.nil ?_
                refine SxN.back (gk - 1) (V199, (.slice AL ls.length cL), (.slice AP ps.length cP), gc, (i + 1), ks, ls, ps, M, MC, MT, db) (by omega) ⟨show i + 1 + (gk - 1) = l.length by omega, ⟨_, hK.step⟩, hV199, hvL, hvP, hgc⟩ ⟨rfl, rfl, rfl, rfl, rfl, rfl, rfl, rfl, rfl, trivial⟩ [2, 3, 4, 5, 6] rfl (by decide) ⟨.inr (fun g hg => by rw [List.mem_singleton.1 hg]; exact hg2), .inr (fun g hg => by rw [List.mem_singleton.1 hg]; exact hg1), .inl rfl, .inl rfl, .inl rfl, .inl rfl, .inl rfl, trivial⟩
              · refine SxC.region ?_
                refine SxL.val trivial rfl rfl (fun ρ w E H => ex_move E rfl rfl) ?_
                refine SxL.val (v := .pointer (some ⟨g1, 1, none⟩)) trivial rfl rfl (fun ρ w E H => ex_field E rfl fa_palaver_palaverlaw26_Act_1 rfl rfl) ?_
                refine SxL.val trivial rfl rfl (fun ρ w E H => ex_load1 E (H.get (i := 1) rfl) rfl rfl Tryz.underlying5 rfl rfl) ?_
                refine SxL.val (v := .pointer (some ⟨g1, 2, none⟩)) trivial rfl rfl (fun ρ w E H => ex_field E rfl fa_palaver_palaverlaw26_Act_2 rfl rfl) ?_
                refine SxL.val trivial rfl rfl (fun ρ w E H => ex_load1 E (H.get (i := 1) rfl) rfl rfl Tryz.underlying5 rfl rfl) ?_
                refine SxL.call (σ := Value) (fun _ => .int .i64 0) (fun s => OwnIn w [] s) (fun s => _) trivial rfl rfl (fun ρ w E => ex_call E en_palaver_net_Net_Cut rfl rfl) (callNet (i := 2) (bag' := (bagK ps ks)) (M' := (setM M (bothN f t) (.bool true))) rfl hV (fun W H => (cut_any _ _ _ _ _ _ f t W (H.get (i := 2) rfl)).mono fun _ _ h => by rw [hap] at h; exact h)) fun V199 hV199 => ?_
                refine SxL.val (v := .bool true) trivial rfl rfl (fun ρ w E H => ex_cmp E rfl rfl rfl rfl (by decide)) ?_
                refine SxL.nil (SxN.then_ (SxC.condT rfl (SxC.seq (SxC.region ?_))))
                refine SxL.val trivial rfl rfl (fun ρ w E H => ex_move E rfl rfl) ?_
                refine SxL.val trivial rfl rfl (fun ρ w E H => ex_load (part := [.int .u8 (f : Int), .int .u8 (t : Int)]) E (H.get (i := 0) rfl) rfl rfl Tryz.underlying57 rfl sz_palaver_net_Pair rfl rfl) ?_
                refine SxL.skipG _ trivial rfl (fun ρ w E H => Hp.putM (i := 5) (k := (f, t)) (v := (.bool true)) E H key_pair rfl rfl Tryz.underlying52 rfl rfl rfl) ?_
                refine SxL.nil (SxN.then_ (SxC.region ?_))
                refine SxL.val trivial rfl rfl (fun ρ w E H => ex_move E rfl rfl) ?_
                refine SxL.val (v := .pointer (some ⟨g1, 2, none⟩)) trivial rfl rfl (fun ρ w E H => ex_field E rfl fa_palaver_palaverlaw26_Act_2 rfl rfl) ?_
                refine SxL.val trivial rfl rfl (fun ρ w E H => ex_load1 E (H.get (i := 1) rfl) rfl rfl Tryz.underlying5 rfl rfl) ?_
                refine SxL.val (v := .pointer (some ⟨g1, 1, none⟩)) trivial rfl rfl (fun ρ w E H => ex_field E rfl fa_palaver_palaverlaw26_Act_1 rfl rfl) ?_
                refine SxL.val trivial rfl rfl (fun ρ w E H => ex_load1 E (H.get (i := 1) rfl) rfl rfl Tryz.underlying5 rfl rfl) ?_
                refine SxL.val trivial rfl rfl (fun ρ w E H => ex_build (cs := [.int .u8 (t : Int), .int .u8 (f : Int)]) E rfl rfl (by kernel_rfl)) ?_
                refine SxL.skipG _ trivial rfl (fun ρ w E H => Hp.putM (i := 5) (k := (t, f)) (v := (.bool true)) E H key_pair rfl rfl Tryz.underlying52 rfl rfl rfl) ?_
                refine SxL.nil (SxN.block (SxN.then_ (SxC.seq (SxC.region ?_))))
                refine SxL.val trivial rfl rfl (fun ρ w E H => ex_move E rfl rfl) ?_
                refine SxL.callB (v := .int .i64 ((bagK ps ks).length : Int)) trivial rfl rfl (fun ρ w E => ex_call E en_palaver_net_Net_Len rfl rfl) (fun w H => len_any _ _ _ _ (bagK ps ks) _ w (H.get (i := 2) rfl)) ?_
                refine SxL.val trivial rfl rfl (fun ρ w E H => ex_move E rfl rfl) ?_
                refine SxL.val (v := .bool false) trivial rfl rfl (fun ρ w E H => ex_cmp E rfl rfl rfl rfl (by simp only [cmpB]; first | (rw [hbe]; simp; done) | (simp; done) | (rw [hbe]; simp; omega))) ?_
                refine SxL.nil (SxN.then_ (SxC.condF rfl (SxC.skip (SxN.block (SxN.then_ (SxC.region ?_))))))
                refine SxL.val trivial rfl rfl (fun ρ w E H => ex_move E rfl rfl) ?_
                refine SxL.val (v := .int .i64 ((i + 1 : Nat) : Int)) trivial rfl rfl (fun ρ w E H => ex_add E rfl rfl rfl (by rw [IntKind.wrap_i64]; omega)) ?_
                refine SxL.val trivial rfl rfl (fun ρ w E H => ex_assign E rfl rfl) ?_
                refine SxL.nil ?_
                refine SxN.back (gk - 1) (V199, (.slice AL ls.length cL), (.slice AP ps.length cP), gc, (i + 1), ks, ls, ps, (setM M (bothN f t) (.bool true)), (setM (setM MC (f, t) (.bool true)) (t, f) (.bool true)), MT, db) (by omega) ⟨show i + 1 + (gk - 1) = l.length by omega, ⟨_, hK.cuts f t⟩, hV199, hvL, hvP, hgc⟩ ⟨rfl, rfl, rfl, rfl, rfl, rfl, rfl, rfl, rfl, trivial⟩ [2, 3, 4, 5, 6] rfl (by decide) ⟨.inr (fun g hg => by rw [List.mem_singleton.1 hg]; exact hg2), .inr (fun g hg => by rw [List.mem_singleton.1 hg]; exact hg1), .inl rfl, .inl rfl, .inl rfl, .inl rfl, .inl rfl, trivial⟩
          · refine SxC.condT rfl (SxC.seq ?_)
            rcases double_keeps ps ks f t k (by omega) with ⟨tc, htc0, htc1, htk⟩ | ⟨j, kk, hj, hpj, htk⟩
            · refine SxC.region ?_
              refine SxL.val trivial rfl rfl (fun ρ w E H => ex_move E rfl rfl) ?_
              refine SxL.val (v := .pointer (some ⟨g1, 1, none⟩)) trivial rfl rfl (fun ρ w E H => ex_field E rfl fa_palaver_palaverlaw26_Act_1 rfl rfl) ?_
              refine SxL.val trivial rfl rfl (fun ρ w E H => ex_load1 E (H.get (i := 1) rfl) rfl rfl Tryz.underlying5 rfl rfl) ?_
              refine SxL.val (v := .pointer (some ⟨g1, 2, none⟩)) trivial rfl rfl (fun ρ w E H => ex_field E rfl fa_palaver_palaverlaw26_Act_2 rfl rfl) ?_
              refine SxL.val trivial rfl rfl (fun ρ w E H => ex_load1 E (H.get (i := 1) rfl) rfl rfl Tryz.underlying5 rfl rfl) ?_
              refine SxL.val (v := .pointer (some ⟨g1, 3, none⟩)) trivial rfl rfl (fun ρ w E H => ex_field E rfl fa_palaver_palaverlaw26_Act_3 rfl rfl) ?_
              refine SxL.val trivial rfl rfl (fun ρ w E H => ex_load1 E (H.get (i := 1) rfl) rfl rfl Tryz.underlying3 rfl rfl) ?_
              refine SxL.call (σ := Value) (fun _ => .int .i64 (tc : Int)) (fun s => OwnIn w [] s) (fun s => _) trivial rfl rfl (fun ρ w E => ex_call E en_palaver_net_Net_Double rfl rfl) (callNet (i := 2) (bag' := (bagK ps ks)) (M' := M) rfl hV (fun W H => (double_any _ _ _ _ _ _ f t k W (H.get (i := 2) rfl) hb512 H.os.size).mono fun _ _ h => by rw [htk] at h; exact h)) fun V184 hV184 => ?_
              refine SxL.val (v := .bool false) trivial rfl rfl (fun ρ w E H => ex_cmp E rfl rfl rfl rfl (by simp [cmpB]; omega)) ?_
              refine SxL.nil (SxN.then_ (SxC.condF rfl (SxC.skip (SxN.block (SxN.then_ (SxC.seq (SxC.region ?_)))))))
              refine SxL.val trivial rfl rfl (fun ρ w E H => ex_move E rfl rfl) ?_
              refine SxL.callB (v := .int .i64 ((bagK ps ks).length : Int)) trivial rfl rfl (fun ρ w E => ex_call E en_palaver_net_Net_Len rfl rfl) (fun w H => len_any _ _ _ _ (bagK ps ks) _ w (H.get (i := 2) rfl)) ?_
              refine SxL.val trivial rfl rfl (fun ρ w E H => ex_move E rfl rfl) ?_
              refine SxL.val (v := .bool false) trivial rfl rfl (fun ρ w E H => ex_cmp E rfl rfl rfl rfl (by simp only [cmpB]; first | (rw [hbe]; simp; done) | (simp; done) | (rw [hbe]; simp; omega))) ?_
              refine SxL.nil (SxN.then_ (SxC.condF rfl (SxC.skip (SxN.block (SxN.then_ (SxC.region ?_))))))
              refine SxL.val trivial rfl rfl (fun ρ w E H => ex_move E rfl rfl) ?_
              refine SxL.val (v := .int .i64 ((i + 1 : Nat) : Int)) trivial rfl rfl (fun ρ w E H => ex_add E rfl rfl rfl (by rw [IntKind.wrap_i64]; omega)) ?_
              refine SxL.val trivial rfl rfl (fun ρ w E H => ex_assign E rfl rfl) ?_
              refine SxL.nil ?_
              refine SxN.back (gk - 1) (V184, (.slice AL ls.length cL), (.slice AP ps.length cP), gc, (i + 1), ks, ls, ps, M, MC, MT, db) (by omega) ⟨show i + 1 + (gk - 1) = l.length by omega, ⟨_, hK.step⟩, hV184, hvL, hvP, hgc⟩ ⟨rfl, rfl, rfl, rfl, rfl, rfl, rfl, rfl, rfl, trivial⟩ [2, 3, 4, 5, 6] rfl (by decide) ⟨.inr (fun g hg => by rw [List.mem_singleton.1 hg]; exact hg2), .inr (fun g hg => by rw [List.mem_singleton.1 hg]; exact hg1), .inl rfl, .inl rfl, .inl rfl, .inl rfl, .inl rfl, trivial⟩
            · have hbe : (bagK ps (ks ++ [kk])).length = ks.length + 1 := by rw [bagK_len, List.length_append, List.length_singleton]
              refine SxC.region ?_
              refine SxL.val trivial rfl rfl (fun ρ w E H => ex_move E rfl rfl) ?_
              refine SxL.val (v := .pointer (some ⟨g1, 1, none⟩)) trivial rfl rfl (fun ρ w E H => ex_field E rfl fa_palaver_palaverlaw26_Act_1 rfl rfl) ?_
              refine SxL.val trivial rfl rfl (fun ρ w E H => ex_load1 E (H.get (i := 1) rfl) rfl rfl Tryz.underlying5 rfl rfl) ?_
              refine SxL.val (v := .pointer (some ⟨g1, 2, none⟩)) trivial rfl rfl (fun ρ w E H => ex_field E rfl fa_palaver_palaverlaw26_Act_2 rfl rfl) ?_
              refine SxL.val trivial rfl rfl (fun ρ w E H => ex_load1 E (H.get (i := 1) rfl) rfl rfl Tryz.underlying5 rfl rfl) ?_
              refine SxL.val (v := .pointer (some ⟨g1, 3, none⟩)) trivial rfl rfl (fun ρ w E H => ex_field E rfl fa_palaver_palaverlaw26_Act_3 rfl rfl) ?_
              refine SxL.val trivial rfl rfl (fun ρ w E H => ex_load1 E (H.get (i := 1) rfl) rfl rfl Tryz.underlying3 rfl rfl) ?_
              refine SxL.call (σ := Value) (fun _ => .int .i64 0) (fun s => OwnIn w [] s) (fun s => _) trivial rfl rfl (fun ρ w E => ex_call E en_palaver_net_Net_Double rfl rfl) (callNet (i := 2) (bag' := (bagK ps (ks ++ [kk]))) (M' := M) rfl hV (fun W H => (double_any _ _ _ _ _ _ f t k W (H.get (i := 2) rfl) hb512 H.os.size).mono fun _ _ h => by rw [htk] at h; exact h)) fun V184 hV184 => ?_
              refine SxL.val (v := .bool true) trivial rfl rfl (fun ρ w E H => ex_cmp E rfl rfl rfl rfl (by decide)) ?_
              refine SxL.nil (SxN.then_ (SxC.condT rfl (SxC.seq (SxC.region ?_))))
              refine SxL.val trivial rfl rfl (fun ρ w E H => ex_move E rfl rfl) ?_
              refine SxL.val (v := .int .i64 ((bagK ps (ks ++ [kk])).length : Int)) trivial rfl rfl (fun ρ w E H => ex_add E rfl rfl rfl (by rw [IntKind.wrap_i64]; omega)) ?_
              refine SxL.val trivial rfl rfl (fun ρ w E H => ex_assign E rfl rfl) ?_
              refine SxL.nil (SxN.then_ (SxC.seq (SxC.region ?_)))
              refine SxL.val trivial rfl rfl (fun ρ w E H => ex_assign E rfl rfl) ?_
              refine SxL.nil (SxN.then_ (SxC.region ?_))
              iterate 2 refine SxL.val trivial rfl rfl (fun ρ w E H => ex_move E rfl rfl) ?_
              refine SxL.val trivial rfl rfl (fun ρ w E H => ex_load (part := [.int .u8 (f : Int), .int .u8 (t : Int)]) E (H.get (i := 0) rfl) rfl rfl Tryz.underlying57 rfl sz_palaver_net_Pair rfl rfl) ?_
              refine SxL.call (σ := Value) (fun s => s) (fun s => OwnIn w [] s) (fun s => _) trivial rfl rfl (fun ρ w E => ex_call E en_palaver_palaverlaw26_more rfl rfl) (call_more ls ps f t AL AP cL cP (fun W H => own_readE iL_len (by decide) (H.get (i := 3) rfl)) (fun W H => own_readE prL_len (by decide) (H.get (i := 4) rfl)) (by omega) hlp.symm (fun v hv => by have := hK.small v hv; omega)) fun vM hvM => ?_
              refine SxL.val trivial rfl rfl (fun ρ w E H => ex_assign E rfl rfl) ?_
              refine SxL.nil (SxN.block (SxN.then_ (SxC.seq (SxC.region ?_))))
              refine SxL.val trivial rfl rfl (fun ρ w E H => ex_move E rfl rfl) ?_
              refine SxL.callB (v := .int .i64 ((bagK ps (ks ++ [kk])).length : Int)) trivial rfl rfl (fun ρ w E => ex_call E en_palaver_net_Net_Len rfl rfl) (fun w H => len_any _ _ _ _ (bagK ps (ks ++ [kk])) _ w (H.get (i := 3) rfl)) ?_
              refine SxL.val trivial rfl rfl (fun ρ w E H => ex_move E rfl rfl) ?_
              refine SxL.val (v := .bool false) trivial rfl rfl (fun ρ w E H => ex_cmp E rfl rfl rfl rfl (by simp only [cmpB]; first | (rw [hbe]; simp; done) | (simp; done) | (rw [hbe]; simp; omega))) ?_
              refine SxL.nil (SxN.then_ (SxC.condF rfl (SxC.skip (SxN.block (SxN.then_ (SxC.region ?_))))))
              refine SxL.val trivial rfl rfl (fun ρ w E H => ex_move E rfl rfl) ?_
              refine SxL.val (v := .int .i64 ((i + 1 : Nat) : Int)) trivial rfl rfl (fun ρ w E H => ex_add E rfl rfl rfl (by rw [IntKind.wrap_i64]; omega)) ?_
              refine SxL.val trivial rfl rfl (fun ρ w E H => ex_assign E rfl rfl) ?_
              refine SxL.nil ?_
              refine SxN.back (gk - 1) (V184, vM, (.slice AP ps.length cP), gc, (i + 1), (ks ++ [kk]), (moreL ls ps (f, t)), ps, M, MC, MT, true) (by omega) ⟨show i + 1 + (gk - 1) = l.length by omega, ⟨_, hK.doubled hj hpj⟩, hV184, hvM, hvP, hgc⟩ ⟨rfl, rfl, rfl, rfl, rfl, rfl, rfl, rfl, rfl, trivial⟩ [3, 0, 5, 6, 7] rfl (by decide) ⟨.inl rfl, .inr (fun g hg => by rw [List.mem_singleton.1 hg]; exact hg2), .inr (fun g hg => by rw [List.mem_singleton.1 hg]; exact hg1), .inl rfl, .inr (hvL.fresh), .inl rfl, .inl rfl, .inl rfl, trivial⟩
        · refine SxC.condT rfl (SxC.seq ?_)
          rcases drop_keeps ps ks f t k with ⟨tc, htc0, htc1, htk⟩ | ⟨j, hjl, htk⟩
          · refine SxC.region ?_
            refine SxL.val trivial rfl rfl (fun ρ w E H => ex_move E rfl rfl) ?_
            refine SxL.val (v := .pointer (some ⟨g1, 1, none⟩)) trivial rfl rfl (fun ρ w E H => ex_field E rfl fa_palaver_palaverlaw26_Act_1 rfl rfl) ?_
            refine SxL.val trivial rfl rfl (fun ρ w E H => ex_load1 E (H.get (i := 1) rfl) rfl rfl Tryz.underlying5 rfl rfl) ?_
            refine SxL.val (v := .pointer (some ⟨g1, 2, none⟩)) trivial rfl rfl (fun ρ w E H => ex_field E rfl fa_palaver_palaverlaw26_Act_2 rfl rfl) ?_
            refine SxL.val trivial rfl rfl (fun ρ w E H => ex_load1 E (H.get (i := 1) rfl) rfl rfl Tryz.underlying5 rfl rfl) ?_
            refine SxL.val (v := .pointer (some ⟨g1, 3, none⟩)) trivial rfl rfl (fun ρ w E H => ex_field E rfl fa_palaver_palaverlaw26_Act_3 rfl rfl) ?_
            refine SxL.val trivial rfl rfl (fun ρ w E H => ex_load1 E (H.get (i := 1) rfl) rfl rfl Tryz.underlying3 rfl rfl) ?_
            refine SxL.call (σ := Value) (fun _ => .int .i64 (tc : Int)) (fun s => OwnIn w [] s) (fun s => _) trivial rfl rfl (fun ρ w E => ex_call E en_palaver_net_Net_Drop rfl rfl) (callNet (i := 2) (bag' := (bagK ps ks)) (M' := M) rfl hV (fun W H => (drop_any _ _ _ _ _ _ f t k W (H.get (i := 2) rfl) hb512).mono fun _ _ h => by rw [htk] at h; exact h)) fun V171 hV171 => ?_
            refine SxL.val (v := .bool false) trivial rfl rfl (fun ρ w E H => ex_cmp E rfl rfl rfl rfl (by simp [cmpB]; omega)) ?_
            refine SxL.nil (SxN.then_ (SxC.condF rfl (SxC.skip (SxN.block (SxN.then_ (SxC.seq (SxC.region ?_)))))))
            refine SxL.val trivial rfl rfl (fun ρ w E H => ex_move E rfl rfl) ?_
            refine SxL.callB (v := .int .i64 ((bagK ps ks).length : Int)) trivial rfl rfl (fun ρ w E => ex_call E en_palaver_net_Net_Len rfl rfl) (fun w H => len_any _ _ _ _ (bagK ps ks) _ w (H.get (i := 2) rfl)) ?_
            refine SxL.val trivial rfl rfl (fun ρ w E H => ex_move E rfl rfl) ?_
            refine SxL.val (v := .bool false) trivial rfl rfl (fun ρ w E H => ex_cmp E rfl rfl rfl rfl (by simp only [cmpB]; first | (rw [hbe]; simp; done) | (simp; done) | (rw [hbe]; simp; omega))) ?_
            refine SxL.nil (SxN.then_ (SxC.condF rfl (SxC.skip (SxN.block (SxN.then_ (SxC.region ?_))))))
            refine SxL.val trivial rfl rfl (fun ρ w E H => ex_move E rfl rfl) ?_
            refine SxL.val (v := .int .i64 ((i + 1 : Nat) : Int)) trivial rfl rfl (fun ρ w E H => ex_add E rfl rfl rfl (by rw [IntKind.wrap_i64]; omega)) ?_
            refine SxL.val trivial rfl rfl (fun ρ w E H => ex_assign E rfl rfl) ?_
            refine SxL.nil ?_
            refine SxN.back (gk - 1) (V171, (.slice AL ls.length cL), (.slice AP ps.length cP), gc, (i + 1), ks, ls, ps, M, MC, MT, db) (by omega) ⟨show i + 1 + (gk - 1) = l.length by omega, ⟨_, hK.step⟩, hV171, hvL, hvP, hgc⟩ ⟨rfl, rfl, rfl, rfl, rfl, rfl, rfl, rfl, rfl, trivial⟩ [2, 3, 4, 5, 6] rfl (by decide) ⟨.inr (fun g hg => by rw [List.mem_singleton.1 hg]; exact hg2), .inr (fun g hg => by rw [List.mem_singleton.1 hg]; exact hg1), .inl rfl, .inl rfl, .inl rfl, .inl rfl, .inl rfl, trivial⟩
          · have hbe : (bagK ps (ks.eraseIdx j)).length = ks.length - 1 := by rw [bagK_len, List.length_eraseIdx_of_lt hjl]
            refine SxC.region ?_
            refine SxL.val trivial rfl rfl (fun ρ w E H => ex_move E rfl rfl) ?_
            refine SxL.val (v := .pointer (some ⟨g1, 1, none⟩)) trivial rfl rfl (fun ρ w E H => ex_field E rfl fa_palaver_palaverlaw26_Act_1 rfl rfl) ?_
            refine SxL.val trivial rfl rfl (fun ρ w E H => ex_load1 E (H.get (i := 1) rfl) rfl rfl Tryz.underlying5 rfl rfl) ?_
            refine SxL.val (v := .pointer (some ⟨g1, 2, none⟩)) trivial rfl rfl (fun ρ w E H => ex_field E rfl fa_palaver_palaverlaw26_Act_2 rfl rfl) ?_
            refine SxL.val trivial rfl rfl (fun ρ w E H => ex_load1 E (H.get (i := 1) rfl) rfl rfl Tryz.underlying5 rfl rfl) ?_
            refine SxL.val (v := .pointer (some ⟨g1, 3, none⟩)) trivial rfl rfl (fun ρ w E H => ex_field E rfl fa_palaver_palaverlaw26_Act_3 rfl rfl) ?_
            refine SxL.val trivial rfl rfl (fun ρ w E H => ex_load1 E (H.get (i := 1) rfl) rfl rfl Tryz.underlying3 rfl rfl) ?_
            refine SxL.call (σ := Value) (fun _ => .int .i64 0) (fun s => OwnIn w [] s) (fun s => _) trivial rfl rfl (fun ρ w E => ex_call E en_palaver_net_Net_Drop rfl rfl) (callNet (i := 2) (bag' := (bagK ps (ks.eraseIdx j))) (M' := M) rfl hV (fun W H => (drop_any _ _ _ _ _ _ f t k W (H.get (i := 2) rfl) hb512).mono fun _ _ h => by rw [htk] at h; exact h)) fun V171 hV171 => ?_
            refine SxL.val (v := .bool true) trivial rfl rfl (fun ρ w E H => ex_cmp E rfl rfl rfl rfl (by decide)) ?_
            refine SxL.nil (SxN.then_ (SxC.condT rfl (SxC.region ?_)))
            refine SxL.val trivial rfl rfl (fun ρ w E H => ex_move E rfl rfl) ?_
            refine SxL.val (v := .int .i64 ((bagK ps (ks.eraseIdx j)).length : Int)) trivial rfl rfl (fun ρ w E H => ex_sub E rfl rfl rfl (by rw [IntKind.wrap_i64]; omega)) ?_
            refine SxL.val trivial rfl rfl (fun ρ w E H => ex_assign E rfl rfl) ?_
            refine SxL.nil (SxN.block (SxN.then_ (SxC.seq (SxC.region ?_))))
            refine SxL.val trivial rfl rfl (fun ρ w E H => ex_move E rfl rfl) ?_
            refine SxL.callB (v := .int .i64 ((bagK ps (ks.eraseIdx j)).length : Int)) trivial rfl rfl (fun ρ w E => ex_call E en_palaver_net_Net_Len rfl rfl) (fun w H => len_any _ _ _ _ (bagK ps (ks.eraseIdx j)) _ w (H.get (i := 2) rfl)) ?_
            refine SxL.val trivial rfl rfl (fun ρ w E H => ex_move E rfl rfl) ?_
            refine SxL.val (v := .bool false) trivial rfl rfl (fun ρ w E H => ex_cmp E rfl rfl rfl rfl (by simp only [cmpB]; first | (rw [hbe]; simp; done) | (simp; done) | (rw [hbe]; simp; omega))) ?_
            refine SxL.nil (SxN.then_ (SxC.condF rfl (SxC.skip (SxN.block (SxN.then_ (SxC.region ?_))))))
            refine SxL.val trivial rfl rfl (fun ρ w E H => ex_move E rfl rfl) ?_
            refine SxL.val (v := .int .i64 ((i + 1 : Nat) : Int)) trivial rfl rfl (fun ρ w E H => ex_add E rfl rfl rfl (by rw [IntKind.wrap_i64]; omega)) ?_
            refine SxL.val trivial rfl rfl (fun ρ w E H => ex_assign E rfl rfl) ?_
            refine SxL.nil ?_
            refine SxN.back (gk - 1) (V171, (.slice AL ls.length cL), (.slice AP ps.length cP), gc, (i + 1), (ks.eraseIdx j), ls, ps, M, MC, MT, db) (by omega) ⟨show i + 1 + (gk - 1) = l.length by omega, ⟨_, hK.drop j⟩, hV171, hvL, hvP, hgc⟩ ⟨rfl, rfl, rfl, rfl, rfl, rfl, rfl, rfl, rfl, trivial⟩ [2, 3, 4, 5, 6] rfl (by decide) ⟨.inr (fun g hg => by rw [List.mem_singleton.1 hg]; exact hg2), .inr (fun g hg => by rw [List.mem_singleton.1 hg]; exact hg1), .inl rfl, .inl rfl, .inl rfl, .inl rfl, .inl rfl, trivial⟩
      · refine SxC.condT rfl (SxC.seq ?_)
        rcases take_keeps (ps := ps) (M := M) (f := f) (t := t) (K := k) hk1000 with ⟨tc, htc0, htc1, htk⟩ | ⟨j, kk, htk, hj, hpj, hcu, hfi⟩
        · refine SxC.region ?_
          refine SxL.val trivial rfl rfl (fun ρ w E H => ex_move E rfl rfl) ?_
          refine SxL.val (v := .pointer (some ⟨g1, 1, none⟩)) trivial rfl rfl (fun ρ w E H => ex_field E rfl fa_palaver_palaverlaw26_Act_1 rfl rfl) ?_
          refine SxL.val trivial rfl rfl (fun ρ w E H => ex_load1 E (H.get (i := 1) rfl) rfl rfl Tryz.underlying5 rfl rfl) ?_
          refine SxL.val (v := .pointer (some ⟨g1, 2, none⟩)) trivial rfl rfl (fun ρ w E H => ex_field E rfl fa_palaver_palaverlaw26_Act_2 rfl rfl) ?_
          refine SxL.val trivial rfl rfl (fun ρ w E H => ex_load1 E (H.get (i := 1) rfl) rfl rfl Tryz.underlying5 rfl rfl) ?_
          refine SxL.val (v := .pointer (some ⟨g1, 3, none⟩)) trivial rfl rfl (fun ρ w E H => ex_field E rfl fa_palaver_palaverlaw26_Act_3 rfl rfl) ?_
          refine SxL.val trivial rfl rfl (fun ρ w E H => ex_load1 E (H.get (i := 1) rfl) rfl rfl Tryz.underlying3 rfl rfl) ?_
          refine SxL.call (σ := Value × Value × Value) (fun q => .tuple #[.agg (.int .u8 ((((bagK ps ks), ((0, 0, ms0 0) : Nat × Nat × Ms), tc)).2.1.1 : Int) :: .int .u8 ((((bagK ps ks), ((0, 0, ms0 0) : Nat × Nat × Ms), tc)).2.1.2.1 : Int) :: msL (((bagK ps ks), ((0, 0, ms0 0) : Nat × Nat × Ms), tc)).2.1.2.2 q.2.1 q.2.2).toArray, .int .i64 ((((bagK ps ks), ((0, 0, ms0 0) : Nat × Nat × Ms), tc)).2.2 : Int)]) (fun q => OwnIn w [] q.1 ∧ OwnIn w [] q.2.1 ∧ OwnIn w [] q.2.2) (fun q => _) trivial rfl rfl (fun ρ w E => ex_call E en_palaver_net_Net_Take rfl rfl) (call_takeN (i := 2) (r := ((bagK ps ks), ((0, 0, ms0 0) : Nat × Nat × Ms), tc)) rfl hV hb512 hK.mt hby htk) fun q hq79 => ?_
          obtain ⟨V79, U79, I79⟩ := q
          dsimp only at hq79
          refine SxL.with (fun W H => own_is_slice (H.get (i := 0) rfl)) ?_
          rintro ⟨UA79, uk79, rfl⟩
          refine SxL.with (fun W H => own_is_slice (H.get (i := 1) rfl)) ?_
          rintro ⟨IA79, ik79, rfl⟩
          refine SxL.val trivial rfl rfl (fun ρ w E H => ex_move E rfl rfl) ?_
          refine SxL.val trivial rfl rfl (fun ρ w E H => ex_extract E rfl rfl rfl) ?_
          refine SxL.val (v := .int .i64 (tc : Int)) trivial rfl rfl (fun ρ w E H => ex_extract E rfl rfl rfl) ?_
          refine SxL.new (cs := [.int .u8 0, .int .u8 0, .int .u8 0, .int .u64 0, .int .u8 0, .int .u64 0, .int .u64 0, .int .u8 0, .string ⟨[].toArray⟩, .slice none 0 0, .slice none 0 0, .int .u8 0, .int .u32 0, .int .u8 0, .string ⟨[].toArray⟩, .string ⟨[].toArray⟩, .string ⟨[].toArray⟩, .int .u8 0, .int .u8 0, .string ⟨[].toArray⟩]) trivial rfl rfl (fun ρ w E H => ex_alloc rfl zr_palaver_api_Letter rfl) fun g5 hg5 => ?_
          refine SxL.storeX (i := 0) [.int .u8 0, .int .u8 0, .int .u8 0, .int .u64 0, .int .u8 0, .int .u64 0, .int .u64 0, .int .u8 0, .string ⟨[].toArray⟩, .slice UA79 0 uk79, .slice IA79 0 ik79, .int .u8 0, .int .u32 0, .int .u8 0, .string ⟨[].toArray⟩, .string ⟨[].toArray⟩, .string ⟨[].toArray⟩, .int .u8 0, .int .u8 0, .string ⟨[].toArray⟩] trivial rfl rfl rfl rfl rfl sz_palaver_api_Letter rfl rfl rfl (putL_all _ _ rfl) ?_
          refine SxL.val trivial rfl rfl (fun ρ w E H => ex_assign E rfl rfl) ?_
          refine SxL.nil (SxN.then_ (SxC.seq (SxC.seq (SxC.region ?_))))
          refine SxL.val trivial rfl rfl (fun ρ w E H => ex_move E rfl rfl) ?_
          refine SxL.val (v := .bool true) trivial rfl rfl (fun ρ w E H => ex_cmp E rfl rfl rfl rfl (by simp [cmpB]; omega)) ?_
          refine SxL.nil (SxN.then_ (SxC.condT rfl (SxC.seq (SxC.seq (SxC.region ?_)))))
          refine SxL.val (v := .pointer (some ⟨g5, 2, none⟩)) trivial rfl rfl (fun ρ w E H => ex_field E rfl fa_palaver_api_Letter_2 rfl rfl) ?_
          refine SxL.val trivial rfl rfl (fun ρ w E H => ex_load (part := [.int .u8 0, .int .u64 0, .int .u8 0, .int .u64 0, .int .u64 0, .int .u8 0, .string ⟨[].toArray⟩, .slice UA79 0 uk79, .slice IA79 0 ik79, .int .u8 0, .int .u32 0, .int .u8 0, .string ⟨[].toArray⟩, .string ⟨[].toArray⟩, .string ⟨[].toArray⟩, .int .u8 0, .int .u8 0, .string ⟨[].toArray⟩]) E (H.get (i := 0) rfl) rfl rfl Tryz.underlying33 rfl sz_palaver_api_Msg rfl rfl) ?_
          refine SxL.val trivial rfl rfl (fun ρ w E H => ex_build (cs := [.int .u8 0, .int .u64 0, .int .u8 0, .int .u64 0, .int .u64 0, .int .u8 0, .string ⟨[].toArray⟩, .slice none 0 0, .slice none 0 0, .int .u8 0, .int .u32 0, .int .u8 0, .string ⟨[].toArray⟩, .string ⟨[].toArray⟩, .string ⟨[].toArray⟩, .int .u8 0, .int .u8 0, .string ⟨[].toArray⟩]) E rfl rfl (by kernel_rfl)) ?_
          refine SxL.callB (v := .bool true) trivial rfl rfl (fun ρ w E => ex_call E en_palaver_palaverref18_Same rfl rfl) (fun w H => (rsame_any (ms0 0) (ms0 0) UA79 IA79 none none uk79 ik79 0 0 w ⟨vrows (H.get (i := 1) rfl), irows (H.get (i := 2) rfl)⟩ (none_rows w _ rfl rfl) (by show 0 ≤ 1000000; decide) (by show 0 ≤ 1000000; decide)).mono fun _ _ h => ⟨by rw [h.1]; simp, h.2⟩) ?_
          refine SxL.val (v := .bool false) trivial rfl rfl (fun ρ w E H => ex_not (t := true) E rfl rfl) ?_
          refine SxL.nil (SxN.then_ (SxC.condF rfl (SxC.skip (SxN.then_ (SxC.exit (SxX.thenE ?_))))))
          refine SxX.blockN (by decide) ?_
          refine SxX.thenE (SxX.blockE (SxN.then_ (SxC.region ?_)))
          refine SxL.val trivial rfl rfl (fun ρ w E H => ex_move E rfl rfl) ?_
          refine SxL.val (v := .int .i64 ((i + 1 : Nat) : Int)) trivial rfl rfl (fun ρ w E H => ex_add E rfl rfl rfl (by rw [IntKind.wrap_i64]; omega)) ?_
          refine SxL.val trivial rfl rfl (fun ρ w E H => ex_assign E rfl rfl) ?_
          refine SxL.nil ?_
          refine SxN.back (gk - 1) (V79, (.slice AL ls.length cL), (.slice AP ps.length cP), gc, (i + 1), ks, ls, ps, M, MC, MT, db) (by omega) ⟨show i + 1 + (gk - 1) = l.length by omega, ⟨_, hK.step⟩, hq79.1, hvL, hvP, hgc⟩ ⟨rfl, rfl, rfl, rfl, rfl, rfl, rfl, rfl, rfl, trivial⟩ [5, 6, 7, 8, 9] rfl (by decide) ⟨.inr (fun g hg => by rw [List.mem_singleton.1 hg]; exact hg5), .inr (hq79.2.1.fresh), .inr (hq79.2.2.fresh), .inr (fun g hg => by rw [List.mem_singleton.1 hg]; exact hg2), .inr (fun g hg => by rw [List.mem_singleton.1 hg]; exact hg1), .inl rfl, .inl rfl, .inl rfl, .inl rfl, .inl rfl, trivial⟩
        · obtain ⟨hkk, lv, hlv, hlv1, hlv2⟩ := hK.has hj
          have hkp : kk < ps.length := by omega
          have hpx := prAt_some hkp hpj
          have hunc := hK.uncut hcu
          have hjl : j < ks.length := (List.getElem?_eq_some_iff.1 hj).1
          have hbe : (bagK ps (ks.eraseIdx j)).length = ks.length - 1 := by rw [bagK_len, List.length_eraseIdx_of_lt hjl]
          refine SxC.region ?_
          refine SxL.val trivial rfl rfl (fun ρ w E H => ex_move E rfl rfl) ?_
          refine SxL.val (v := .pointer (some ⟨g1, 1, none⟩)) trivial rfl rfl (fun ρ w E H => ex_field E rfl fa_palaver_palaverlaw26_Act_1 rfl rfl) ?_
          refine SxL.val trivial rfl rfl (fun ρ w E H => ex_load1 E (H.get (i := 1) rfl) rfl rfl Tryz.underlying5 rfl rfl) ?_
          refine SxL.val (v := .pointer (some ⟨g1, 2, none⟩)) trivial rfl rfl (fun ρ w E H => ex_field E rfl fa_palaver_palaverlaw26_Act_2 rfl rfl) ?_
          refine SxL.val trivial rfl rfl (fun ρ w E H => ex_load1 E (H.get (i := 1) rfl) rfl rfl Tryz.underlying5 rfl rfl) ?_
          refine SxL.val (v := .pointer (some ⟨g1, 3, none⟩)) trivial rfl rfl (fun ρ w E H => ex_field E rfl fa_palaver_palaverlaw26_Act_3 rfl rfl) ?_
          refine SxL.val trivial rfl rfl (fun ρ w E H => ex_load1 E (H.get (i := 1) rfl) rfl rfl Tryz.underlying3 rfl rfl) ?_
          refine SxL.call (σ := Value × Value × Value) (fun q => .tuple #[.agg (.int .u8 ((((bagK ps (ks.eraseIdx j)), ((f, t, askM kk) : Nat × Nat × Ms), 0)).2.1.1 : Int) :: .int .u8 ((((bagK ps (ks.eraseIdx j)), ((f, t, askM kk) : Nat × Nat × Ms), 0)).2.1.2.1 : Int) :: msL (((bagK ps (ks.eraseIdx j)), ((f, t, askM kk) : Nat × Nat × Ms), 0)).2.1.2.2 q.2.1 q.2.2).toArray, .int .i64 ((((bagK ps (ks.eraseIdx j)), ((f, t, askM kk) : Nat × Nat × Ms), 0)).2.2 : Int)]) (fun q => OwnIn w [] q.1 ∧ OwnIn w [] q.2.1 ∧ OwnIn w [] q.2.2) (fun q => _) trivial rfl rfl (fun ρ w E => ex_call E en_palaver_net_Net_Take rfl rfl) (call_takeN (i := 2) (r := ((bagK ps (ks.eraseIdx j)), ((f, t, askM kk) : Nat × Nat × Ms), 0)) rfl hV hb512 hK.mt hby htk) fun q hq79 => ?_
          obtain ⟨V79, U79, I79⟩ := q
          dsimp only at hq79
          refine SxL.with (fun W H => own_is_slice (H.get (i := 0) rfl)) ?_
          rintro ⟨UA79, uk79, rfl⟩
          refine SxL.with (fun W H => own_is_slice (H.get (i := 1) rfl)) ?_
          rintro ⟨IA79, ik79, rfl⟩
          refine SxL.val trivial rfl rfl (fun ρ w E H => ex_move E rfl rfl) ?_
          refine SxL.val trivial rfl rfl (fun ρ w E H => ex_extract E rfl rfl rfl) ?_
          refine SxL.val (v := .int .i64 0) trivial rfl rfl (fun ρ w E H => ex_extract E rfl rfl rfl) ?_
          refine SxL.new (cs := [.int .u8 0, .int .u8 0, .int .u8 0, .int .u64 0, .int .u8 0, .int .u64 0, .int .u64 0, .int .u8 0, .string ⟨[].toArray⟩, .slice none 0 0, .slice none 0 0, .int .u8 0, .int .u32 0, .int .u8 0, .string ⟨[].toArray⟩, .string ⟨[].toArray⟩, .string ⟨[].toArray⟩, .int .u8 0, .int .u8 0, .string ⟨[].toArray⟩]) trivial rfl rfl (fun ρ w E H => ex_alloc rfl zr_palaver_api_Letter rfl) fun g6 hg6 => ?_
          refine SxL.storeX (i := 0) [.int .u8 (f : Int), .int .u8 (t : Int), .int .u8 10, .int .u64 0, .int .u8 0, .int .u64 0, .int .u64 (kk : Int), .int .u8 0, .string ⟨[].toArray⟩, .slice UA79 0 uk79, .slice IA79 0 ik79, .int .u8 0, .int .u32 0, .int .u8 0, .string ⟨[].toArray⟩, .string ⟨[].toArray⟩, .string ⟨[].toArray⟩, .int .u8 0, .int .u8 0, .string ⟨[].toArray⟩] trivial rfl rfl rfl rfl rfl sz_palaver_api_Letter rfl rfl rfl (putL_all _ _ rfl) ?_
          refine SxL.val trivial rfl rfl (fun ρ w E H => ex_assign E rfl rfl) ?_
          refine SxL.nil (SxN.then_ (SxC.seq (SxC.seq (SxC.region ?_))))
          refine SxL.val trivial rfl rfl (fun ρ w E H => ex_move E rfl rfl) ?_
          refine SxL.val (v := .bool false) trivial rfl rfl (fun ρ w E H => ex_cmp E rfl rfl rfl rfl (by decide)) ?_
          refine SxL.nil (SxN.then_ (SxC.condF rfl (SxC.skip (SxN.then_ (SxC.seq (SxC.region ?_))))))
          refine SxL.val (v := .pointer (some ⟨g6, 2, none⟩)) trivial rfl rfl (fun ρ w E H => ex_field E rfl fa_palaver_api_Letter_2 rfl rfl) ?_
          refine SxL.val (v := .pointer (some ⟨g6, 6, none⟩)) trivial rfl rfl (fun ρ w E H => ex_field E rfl fa_palaver_api_Msg_3 rfl rfl) ?_
          refine SxL.val trivial rfl rfl (fun ρ w E H => ex_load1 E (H.get (i := 0) rfl) rfl rfl Tryz.underlying22 rfl rfl) ?_
          refine SxL.val trivial rfl rfl (fun ρ w E H => ex_assign E rfl rfl) ?_
          refine SxL.nil (SxN.then_ (SxC.seq (SxC.seq ?_)))
          refine SxC.with (fun W H => own_some (H.get (i := 6) rfl) (by omega)) ?_
          rintro ⟨gl, rfl⟩
          refine SxC.with (fun W H => own_some (H.get (i := 7) rfl) (by omega)) ?_
          rintro ⟨gp, rfl⟩
          refine SxC.drawnK [] [0, 1, 2, 3, 4, 5, 6, 7, 8, 9] (by kernel_rfl) rfl ⟨(fun g hg => by rw [List.mem_singleton.1 hg]; exact .inr hg6), (fun g hg => .inr (hq79.2.1.fresh g hg)), (fun g hg => .inr (hq79.2.2.fresh g hg)), (fun g hg => by rw [List.mem_singleton.1 hg]; exact .inr hg2), (fun g hg => by rw [List.mem_singleton.1 hg]; exact .inr hg1), (fun g hg => .inr ((netF_fresh hgn.1 hgn.2 hq79.1) g hg)), (fun g hg => .inr (hvL.fresh g hg)), (fun g hg => .inr (hvP.fresh g hg)), (fun g hg => .inr ((one_fresh hgc) g hg)), (fun g hg => .inr ((one_fresh hgt) g hg)), trivial⟩ ?_
          refine SxA.take (i := 0) rfl (by kernel_rfl) (by kernel_rfl) (by kernel_rfl) rfl rfl (fun _ _ _ h => h) trivial (fun ρ w E H => ex_move E rfl rfl) ?_
          refine SxA.take (i := 1) rfl (by kernel_rfl) (by kernel_rfl) (by kernel_rfl) rfl rfl (fun _ _ _ h => h) trivial (fun ρ w E H => ex_move E rfl rfl) ?_
          refine SxA.take (i := 2) (v := .int .i64 (ls.length : Int)) rfl (by kernel_rfl) (by kernel_rfl) (by kernel_rfl) rfl rfl (fun _ _ _ h => h) trivial (fun ρ w E H => ex_lenS E rfl Tryz.underlying50 rfl) ?_
          refine SxA.take (i := 3) (v := .int .u64 (ls.length : Int)) rfl (by kernel_rfl) (by kernel_rfl) (by kernel_rfl) rfl rfl (fun _ _ _ h => h) trivial (fun ρ w E H => ex_convInt E rfl Tryz.underlying3 Tryz.underlying22 rfl (by rw [IntKind.wrap_u64]; omega)) ?_
          refine SxA.take (i := 4) (v := .bool false) rfl (by kernel_rfl) (by kernel_rfl) (by kernel_rfl) rfl rfl (fun _ _ _ h => h) trivial (fun ρ w E H => ex_cmp E rfl rfl rfl rfl (by simp [cmpB]; omega)) ?_
          refine SxA.take (i := 5) rfl (by kernel_rfl) (by kernel_rfl) (by kernel_rfl) rfl rfl (fun _ _ _ h => h) trivial (fun ρ w E H => ex_move E rfl rfl) ?_
          refine SxA.take (i := 6) (v := .pointer (some ⟨g6, 2, none⟩)) rfl (by kernel_rfl) (by kernel_rfl) (by kernel_rfl) rfl rfl (fun _ _ _ h => h) ⟨_, _, rfl, rfl, rfl⟩ (fun ρ w E H => ex_field E rfl fa_palaver_api_Letter_2 rfl rfl) ?_
          refine SxA.take (i := 7) rfl (by kernel_rfl) (by kernel_rfl) (by kernel_rfl) rfl rfl (fun _ _ _ h => h) ⟨_, _, rfl, rfl, rfl⟩ (fun ρ w E H => ex_load (part := [.int .u8 10, .int .u64 0, .int .u8 0, .int .u64 0, .int .u64 (kk : Int), .int .u8 0, .string ⟨[].toArray⟩, .slice UA79 0 uk79, .slice IA79 0 ik79, .int .u8 0, .int .u32 0, .int .u8 0, .string ⟨[].toArray⟩, .string ⟨[].toArray⟩, .string ⟨[].toArray⟩, .int .u8 0, .int .u8 0, .string ⟨[].toArray⟩]) E (H.get (i := 0) rfl) rfl rfl Tryz.underlying33 rfl sz_palaver_api_Msg rfl rfl) ?_
          refine SxA.take (i := 8) rfl (by kernel_rfl) (by kernel_rfl) (by kernel_rfl) rfl rfl (fun _ _ _ h => h) ⟨_, _, rfl, rfl, rfl⟩ (fun ρ w E H => ex_move E rfl rfl) ?_
          refine SxA.ready [9] (by kernel_rfl) (by simp) ⟨?_, trivial⟩
          refine SxO.callB (v := .agg #[.int .u8 10, .int .u64 0, .int .u8 0, .int .u64 0, .int .u64 (kk : Int), .int .u8 0, .string ⟨[].toArray⟩, .slice none 0 0, .slice none 0 0, .int .u8 0, .int .u32 0, .int .u8 0, .string ⟨[].toArray⟩, .string ⟨[].toArray⟩, .string ⟨[].toArray⟩, .int .u8 0, .int .u8 0, .string ⟨[].toArray⟩]) rfl ⟨_, _, rfl, rfl, rfl⟩ rfl rfl (fun ρ w E => ex_call E en_palaver_palaverlaw26_ask rfl rfl) (fun w H => ask_any kk w) (fun w H => H.ks [] [0, 1, 2, 3, 4, 5, 6, 7, 8, 9] rfl ⟨(fun g hg => by rw [List.mem_singleton.1 hg]; exact .inr hg6), (fun g hg => .inr (hq79.2.1.fresh g hg)), (fun g hg => .inr (hq79.2.2.fresh g hg)), (fun g hg => by rw [List.mem_singleton.1 hg]; exact .inr hg2), (fun g hg => by rw [List.mem_singleton.1 hg]; exact .inr hg1), (fun g hg => .inr ((netF_fresh hgn.1 hgn.2 hq79.1) g hg)), (fun g hg => .inr (hvL.fresh g hg)), (fun g hg => .inr (hvP.fresh g hg)), (fun g hg => .inr ((one_fresh hgc) g hg)), (fun g hg => .inr ((one_fresh hgt) g hg)), trivial⟩) ?_
          refine SxA.ready [10] (by kernel_rfl) (by simp) ⟨?_, trivial⟩
          refine SxO.callB (v := .bool true) rfl ⟨_, _, rfl, rfl, rfl⟩ rfl rfl (fun ρ w E => ex_call E en_palaver_palaverref18_Same rfl rfl) (fun w H => (rsame_any (askM kk) (askM kk) UA79 IA79 none none uk79 ik79 0 0 w ⟨vrows (H.get (i := 1) rfl), irows (H.get (i := 2) rfl)⟩ (none_rows w _ rfl rfl) (by show 0 ≤ 1000000; decide) (by show 0 ≤ 1000000; decide)).mono fun _ _ h => ⟨by rw [h.1]; simp, h.2⟩) (fun w H => H.ks [] [0, 1, 2, 3, 4, 5, 6, 7, 8, 9] rfl ⟨(fun g hg => by rw [List.mem_singleton.1 hg]; exact .inr hg6), (fun g hg => .inr (hq79.2.1.fresh g hg)), (fun g hg => .inr (hq79.2.2.fresh g hg)), (fun g hg => by rw [List.mem_singleton.1 hg]; exact .inr hg2), (fun g hg => by rw [List.mem_singleton.1 hg]; exact .inr hg1), (fun g hg => .inr ((netF_fresh hgn.1 hgn.2 hq79.1) g hg)), (fun g hg => .inr (hvL.fresh g hg)), (fun g hg => .inr (hvP.fresh g hg)), (fun g hg => .inr ((one_fresh hgc) g hg)), (fun g hg => .inr ((one_fresh hgt) g hg)), trivial⟩) ?_
          refine SxA.take (i := 11) (v := .bool false) rfl (by kernel_rfl) (by kernel_rfl) (by kernel_rfl) rfl rfl (fun _ _ _ h => h) ⟨_, _, rfl, rfl, rfl⟩ (fun ρ w E H => ex_not (t := true) E rfl rfl) ?_
          refine SxA.take (i := 12) rfl (by kernel_rfl) (by kernel_rfl) (by kernel_rfl) rfl rfl (fun _ _ _ h => h) trivial (fun ρ w E H => ex_pick E rfl (t := false) rfl rfl) ?_
          refine SxA.take (i := 13) rfl (by kernel_rfl) (by kernel_rfl) (by kernel_rfl) rfl rfl (fun _ _ _ h => h) trivial (fun ρ w E H => ex_move E rfl rfl) ?_
          refine SxA.take (i := 14) rfl (by kernel_rfl) (by kernel_rfl) (by kernel_rfl) rfl rfl (fun _ _ _ h => h) ⟨_, _, rfl, rfl, rfl⟩ (fun ρ w E H => ex_move E rfl rfl) ?_
          refine SxA.take (i := 15) rfl (by kernel_rfl) (by kernel_rfl) (by kernel_rfl) rfl rfl (fun _ _ _ h => h) ⟨_, _, rfl, rfl, rfl⟩ (fun ρ w E H => ex_move E rfl rfl) ?_
          refine SxA.take (i := 16) (v := .pointer (some ((⟨gl, 0, none⟩ : Addr).add (kk * 1)))) rfl (by kernel_rfl) (by kernel_rfl) (by kernel_rfl) rfl rfl (fun _ _ _ h => h) ⟨_, _, rfl, rfl, rfl⟩ (fun ρ w E H => ex_index (i := kk) E rfl Tryz.underlying50 sz_int rfl rfl hkk) ?_
          refine SxA.take (i := 17) (v := .int .i64 (lv : Int)) rfl (by kernel_rfl) (by kernel_rfl) (by kernel_rfl) rfl rfl (fun _ _ _ h => h) ⟨_, _, rfl, rfl, rfl⟩ (fun ρ w E H => ex_loadX0 E ((own_readE iL_len (by decide) (H.get (i := 6) rfl)).rowA hlv) rfl rfl rfl Tryz.underlying3 rfl) ?_
          refine SxA.take (i := 18) (v := .bool false) rfl (by kernel_rfl) (by kernel_rfl) (by kernel_rfl) rfl rfl (fun _ _ _ h => h) ⟨_, _, rfl, rfl, rfl⟩ (fun ρ w E H => ex_cmp E rfl rfl rfl rfl (by simp [cmpB]; omega)) ?_
          refine SxA.take (i := 19) rfl (by kernel_rfl) (by kernel_rfl) (by kernel_rfl) rfl rfl (fun _ _ _ h => h) trivial (fun ρ w E H => ex_pick E rfl (t := false) rfl rfl) ?_
          refine SxA.take (i := 20) rfl (by kernel_rfl) (by kernel_rfl) (by kernel_rfl) rfl rfl (fun _ _ _ h => h) trivial (fun ρ w E H => ex_move E rfl rfl) ?_
          refine SxA.take (i := 21) rfl (by kernel_rfl) (by kernel_rfl) (by kernel_rfl) rfl rfl (fun _ _ _ h => h) ⟨_, _, rfl, rfl, rfl⟩ (fun ρ w E H => ex_move E rfl rfl) ?_
          refine SxA.take (i := 22) rfl (by kernel_rfl) (by kernel_rfl) (by kernel_rfl) rfl rfl (fun _ _ _ h => h) ⟨_, _, rfl, rfl, rfl⟩ (fun ρ w E H => ex_move E rfl rfl) ?_
          refine SxA.take (i := 23) (v := .pointer (some ((⟨gp, 0, none⟩ : Addr).add (kk * 2)))) rfl (by kernel_rfl) (by kernel_rfl) (by kernel_rfl) rfl rfl (fun _ _ _ h => h) ⟨_, _, rfl, rfl, rfl⟩ (fun ρ w E H => ex_index (i := kk) E rfl Tryz.underlying51 sz_palaver_net_Pair rfl rfl hkp) ?_
          refine SxA.take (i := 24) (v := .agg #[.int .u8 (f : Int), .int .u8 (t : Int)]) rfl (by kernel_rfl) (by kernel_rfl) (by kernel_rfl) rfl rfl (fun _ _ _ h => h) ⟨_, _, rfl, rfl, rfl⟩ (fun ρ w E H => ex_loadX (cs := [.int .u8 (f : Int), .int .u8 (t : Int)]) E ((own_readE prL_len (by decide) (H.get (i := 7) rfl)).rowA hpx) rfl rfl Tryz.underlying57 rfl sz_palaver_net_Pair) ?_
          refine SxA.take (i := 25) rfl (by kernel_rfl) (by kernel_rfl) (by kernel_rfl) rfl rfl (fun _ _ _ h => h) ⟨_, _, rfl, rfl, rfl⟩ (fun ρ w E H => ex_load (part := [.int .u8 (f : Int), .int .u8 (t : Int)]) E (H.get (i := 3) rfl) rfl rfl Tryz.underlying57 rfl sz_palaver_net_Pair rfl rfl) ?_
          refine SxA.take (i := 26) (v := .bool false) rfl (by kernel_rfl) (by kernel_rfl) (by kernel_rfl) rfl rfl (fun _ _ _ h => h) ⟨_, _, rfl, rfl, rfl⟩ (fun ρ w E H => ex_aneq E rfl (by kernel_rfl) rfl rfl (fun w => by rw [Bool.not_false, eq_pair_lit]; simp)) ?_
          refine SxA.take (i := 27) rfl (by kernel_rfl) (by kernel_rfl) (by kernel_rfl) rfl rfl (fun _ _ _ h => h) trivial (fun ρ w E H => ex_pick E rfl (t := false) rfl rfl) ?_
          refine SxA.take (i := 28) rfl (by kernel_rfl) (by kernel_rfl) (by kernel_rfl) rfl rfl (fun _ _ _ h => h) trivial (fun ρ w E H => ex_move E rfl rfl) ?_
          refine SxA.take (i := 29) (v := .pointer (some ⟨g6, 0, none⟩)) rfl (by kernel_rfl) (by kernel_rfl) (by kernel_rfl) rfl rfl (fun _ _ _ h => h) ⟨_, _, rfl, rfl, rfl⟩ (fun ρ w E H => ex_field E rfl fa_palaver_api_Letter_0 rfl rfl) ?_
          refine SxA.take (i := 30) rfl (by kernel_rfl) (by kernel_rfl) (by kernel_rfl) rfl rfl (fun _ _ _ h => h) ⟨_, _, rfl, rfl, rfl⟩ (fun ρ w E H => ex_load1 E (H.get (i := 0) rfl) rfl rfl Tryz.underlying5 rfl rfl) ?_
          refine SxA.take (i := 31) (v := .pointer (some ⟨g1, 1, none⟩)) rfl (by kernel_rfl) (by kernel_rfl) (by kernel_rfl) rfl rfl (fun _ _ _ h => h) ⟨_, _, rfl, rfl, rfl⟩ (fun ρ w E H => ex_field E rfl fa_palaver_palaverlaw26_Act_1 rfl rfl) ?_
          refine SxA.take (i := 32) rfl (by kernel_rfl) (by kernel_rfl) (by kernel_rfl) rfl rfl (fun _ _ _ h => h) ⟨_, _, rfl, rfl, rfl⟩ (fun ρ w E H => ex_load1 E (H.get (i := 4) rfl) rfl rfl Tryz.underlying5 rfl rfl) ?_
          refine SxA.take (i := 33) (v := .bool false) rfl (by kernel_rfl) (by kernel_rfl) (by kernel_rfl) rfl rfl (fun _ _ _ h => h) ⟨_, _, rfl, rfl, rfl⟩ (fun ρ w E H => ex_cmp E rfl rfl rfl rfl (by simp [cmpB])) ?_
          refine SxA.take (i := 34) rfl (by kernel_rfl) (by kernel_rfl) (by kernel_rfl) rfl rfl (fun _ _ _ h => h) trivial (fun ρ w E H => ex_pick E rfl (t := false) rfl rfl) ?_
          refine SxA.take (i := 35) rfl (by kernel_rfl) (by kernel_rfl) (by kernel_rfl) rfl rfl (fun _ _ _ h => h) trivial (fun ρ w E H => ex_move E rfl rfl) ?_
          refine SxA.take (i := 36) (v := .pointer (some ⟨g6, 1, none⟩)) rfl (by kernel_rfl) (by kernel_rfl) (by kernel_rfl) rfl rfl (fun _ _ _ h => h) ⟨_, _, rfl, rfl, rfl⟩ (fun ρ w E H => ex_field E rfl fa_palaver_api_Letter_1 rfl rfl) ?_
          refine SxA.take (i := 37) rfl (by kernel_rfl) (by kernel_rfl) (by kernel_rfl) rfl rfl (fun _ _ _ h => h) ⟨_, _, rfl, rfl, rfl⟩ (fun ρ w E H => ex_load1 E (H.get (i := 0) rfl) rfl rfl Tryz.underlying5 rfl rfl) ?_
          refine SxA.take (i := 38) (v := .pointer (some ⟨g1, 2, none⟩)) rfl (by kernel_rfl) (by kernel_rfl) (by kernel_rfl) rfl rfl (fun _ _ _ h => h) ⟨_, _, rfl, rfl, rfl⟩ (fun ρ w E H => ex_field E rfl fa_palaver_palaverlaw26_Act_2 rfl rfl) ?_
          refine SxA.take (i := 39) rfl (by kernel_rfl) (by kernel_rfl) (by kernel_rfl) rfl rfl (fun _ _ _ h => h) ⟨_, _, rfl, rfl, rfl⟩ (fun ρ w E H => ex_load1 E (H.get (i := 4) rfl) rfl rfl Tryz.underlying5 rfl rfl) ?_
          refine SxA.take (i := 40) (v := .bool false) rfl (by kernel_rfl) (by kernel_rfl) (by kernel_rfl) rfl rfl (fun _ _ _ h => h) ⟨_, _, rfl, rfl, rfl⟩ (fun ρ w E H => ex_cmp E rfl rfl rfl rfl (by simp [cmpB])) ?_
          refine SxA.take (i := 41) rfl (by kernel_rfl) (by kernel_rfl) (by kernel_rfl) rfl rfl (fun _ _ _ h => h) trivial (fun ρ w E H => ex_pick E rfl (t := false) rfl rfl) ?_
          refine SxA.take (i := 42) rfl (by kernel_rfl) (by kernel_rfl) (by kernel_rfl) rfl rfl (fun _ _ _ h => h) trivial (fun ρ w E H => ex_move E rfl rfl) ?_
          refine SxA.take (i := 43) rfl (by kernel_rfl) (by kernel_rfl) (by kernel_rfl) rfl rfl (fun _ _ _ h => h) ⟨_, _, rfl, rfl, rfl⟩ (fun ρ w E H => ex_move E rfl rfl) ?_
          refine SxA.take (i := 44) rfl (by kernel_rfl) (by kernel_rfl) (by kernel_rfl) rfl rfl (fun _ _ _ h => h) ⟨_, _, rfl, rfl, rfl⟩ (fun ρ w E H => ex_load (part := [.int .u8 (f : Int), .int .u8 (t : Int)]) E (H.get (i := 3) rfl) rfl rfl Tryz.underlying57 rfl sz_palaver_net_Pair rfl rfl) ?_
          refine SxA.take (i := 45) (v := .bool false) rfl (by kernel_rfl) (by kernel_rfl) (by kernel_rfl) rfl rfl (fun _ _ _ h => h) ⟨_, _, rfl, rfl, rfl⟩ (fun ρ w E H => ex_lookup (k := (f, t)) (z := (.bool false)) E key_pair (H.get (i := 8) rfl) rfl Tryz.underlying52 zr_bool rfl rfl hunc) ?_
          refine SxA.take (i := 46) rfl (by kernel_rfl) (by kernel_rfl) (by kernel_rfl) rfl rfl (fun _ _ _ h => h) trivial (fun ρ w E H => ex_pick E rfl (t := false) rfl rfl) ?_
          refine SxA.done (by kernel_rfl) ?_
          refine SxN.then_ (SxC.condF rfl (SxC.skip (SxN.then_ (SxC.seq (SxC.seq (SxC.region ?_))))))
          refine SxL.val (v := .pointer (some ⟨g1, 3, none⟩)) trivial rfl rfl (fun ρ w E H => ex_field E rfl fa_palaver_palaverlaw26_Act_3 rfl rfl) ?_
          refine SxL.val trivial rfl rfl (fun ρ w E H => ex_load1 E (H.get (i := 4) rfl) rfl rfl Tryz.underlying3 rfl rfl) ?_
          refine SxL.valB trivial rfl rfl (fun ρ w E H => ex_cmp E rfl rfl rfl rfl rfl) fun c141 hc141 => ?_
          refine SxL.val trivial rfl rfl (fun ρ w E H => ex_move E rfl rfl) ?_
          cases c141
          · refine SxL.off ⟨_, _, _, rfl, rfl, rfl, nofun⟩ rfl rfl ?_
            refine SxL.off ⟨_, _, _, rfl, rfl, rfl, nofun⟩ rfl rfl ?_
            refine SxL.val trivial rfl rfl (fun ρ w E H => ex_pick E rfl (t := false) rfl rfl) ?_
            refine SxL.nil (SxN.then_ (SxC.condF rfl (SxC.skip (SxN.then_ (SxC.seq (SxC.region ?_))))))
            iterate 2 refine SxL.val trivial rfl rfl (fun ρ w E H => ex_move E rfl rfl) ?_
            refine SxL.val (v := .pointer (some ((⟨gl, 0, none⟩ : Addr).add (kk * 1)))) trivial rfl rfl (fun ρ w E H => ex_index (i := kk) E rfl Tryz.underlying50 sz_int rfl rfl hkk) ?_
            refine SxL.val (v := .int .i64 (lv : Int)) trivial rfl rfl (fun ρ w E H => ex_loadX0 E ((own_readE iL_len (by decide) (H.get (i := 6) rfl)).rowA hlv) rfl rfl rfl Tryz.underlying3 rfl) ?_
            refine SxL.val (v := .int .i64 ((lv - 1 : Nat) : Int)) trivial rfl rfl (fun ρ w E H => ex_sub E rfl rfl rfl (by rw [IntKind.wrap_i64]; omega)) ?_
            refine SxL.val (v := .pointer (some ((⟨gl, 0, none⟩ : Addr).add (kk * 1)))) trivial rfl rfl (fun ρ w E H => ex_index (i := kk) E rfl Tryz.underlying50 sz_int rfl rfl hkk) ?_
            refine SxL.skipG _ trivial rfl (fun ρ w E H => Hp.storeEl (cells := iL) (l := ls) (y := (lv - 1)) (k := kk) (i := 6) iL_len E H rfl rfl rfl rfl hkk sz_int rfl rfl) ?_
            refine SxL.nil (SxN.then_ (SxC.region ?_))
            refine SxL.val trivial rfl rfl (fun ρ w E H => ex_move E rfl rfl) ?_
            refine SxL.val (v := .int .i64 ((bagK ps (ks.eraseIdx j)).length : Int)) trivial rfl rfl (fun ρ w E H => ex_sub E rfl rfl rfl (by rw [IntKind.wrap_i64]; omega)) ?_
            refine SxL.val trivial rfl rfl (fun ρ w E H => ex_assign E rfl rfl) ?_
            refine SxL.nil (SxN.block (SxN.then_ (SxC.seq (SxC.region ?_))))
            refine SxL.val trivial rfl rfl (fun ρ w E H => ex_move E rfl rfl) ?_
            refine SxL.callB (v := .int .i64 ((bagK ps (ks.eraseIdx j)).length : Int)) trivial rfl rfl (fun ρ w E => ex_call E en_palaver_net_Net_Len rfl rfl) (fun w H => len_any _ _ _ _ (bagK ps (ks.eraseIdx j)) _ w (H.get (i := 5) rfl)) ?_
            refine SxL.val trivial rfl rfl (fun ρ w E H => ex_move E rfl rfl) ?_
            refine SxL.val (v := .bool false) trivial rfl rfl (fun ρ w E H => ex_cmp E rfl rfl rfl rfl (by simp only [cmpB]; first | (rw [hbe]; simp; done) | (simp; done) | (rw [hbe]; simp; omega))) ?_
            refine SxL.nil (SxN.then_ (SxC.condF rfl (SxC.skip (SxN.block (SxN.then_ (SxC.region ?_))))))
            refine SxL.val trivial rfl rfl (fun ρ w E H => ex_move E rfl rfl) ?_
            refine SxL.val (v := .int .i64 ((i + 1 : Nat) : Int)) trivial rfl rfl (fun ρ w E H => ex_add E rfl rfl rfl (by rw [IntKind.wrap_i64]; omega)) ?_
            refine SxL.val trivial rfl rfl (fun ρ w E H => ex_assign E rfl rfl) ?_
            refine SxL.nil ?_
            refine SxN.back (gk - 1) (V79, (.slice (some ⟨gl, 0, none⟩) ls.length cL), (.slice (some ⟨gp, 0, none⟩) ps.length cP), gc, (i + 1), (ks.eraseIdx j), (ls.set kk (lv - 1)), ps, M, MC, MT, db) (by omega) ⟨show i + 1 + (gk - 1) = l.length by omega, ⟨_, hK.take hj hlv⟩, hq79.1, hvL, hvP, hgc⟩ ⟨rfl, rfl, rfl, rfl, rfl, rfl, rfl, rfl, rfl, trivial⟩ [5, 6, 7, 8, 9] rfl (by decide) ⟨.inr (fun g hg => by rw [List.mem_singleton.1 hg]; exact hg6), .inr (hq79.2.1.fresh), .inr (hq79.2.2.fresh), .inr (fun g hg => by rw [List.mem_singleton.1 hg]; exact hg2), .inr (fun g hg => by rw [List.mem_singleton.1 hg]; exact hg1), .inl rfl, .inl rfl, .inl rfl, .inl rfl, .inl rfl, trivial⟩
          · refine SxL.val ⟨_, _, rfl, rfl, rfl⟩ rfl rfl (fun ρ w E H => ex_move E rfl rfl) ?_
            cases db
            · refine SxL.val (v := .bool true) ⟨_, _, rfl, rfl, rfl⟩ rfl rfl (fun ρ w E H => ex_not (t := false) E rfl rfl) ?_
              refine SxL.val trivial rfl rfl (fun ρ w E H => ex_pick E rfl (t := true) rfl rfl) ?_
              refine SxL.nil (SxN.then_ (SxC.condT rfl (SxC.seq (SxC.seq (SxC.region ?_)))))
              refine SxL.val trivial rfl rfl (fun ρ w E H => ex_move E rfl rfl) ?_
              refine SxL.val trivial rfl rfl (fun ρ w E H => ex_load (part := [.int .u8 (f : Int), .int .u8 (t : Int)]) E (H.get (i := 3) rfl) rfl rfl Tryz.underlying57 rfl sz_palaver_net_Pair rfl rfl) ?_
              refine SxL.val (v := .int .u64 (tf (f, t) : Int)) trivial rfl rfl (fun ρ w E H => ex_lookup (k := (f, t)) (z := (.int .u64 0)) E key_pair (H.get (i := 9) rfl) rfl Tryz.underlying53 zr_uint64 rfl rfl (hK.tv (f, t))) ?_
              refine SxL.val trivial rfl rfl (fun ρ w E H => ex_move E rfl rfl) ?_
              refine SxL.val (v := .bool false) trivial rfl rfl (fun ρ w E H => ex_cmp E rfl rfl rfl rfl (by have h := hK.least hj hpj; simp [cmpB]; omega)) ?_
              refine SxL.nil (SxN.then_ (SxC.condF rfl (SxC.skip (SxN.then_ (SxC.region ?_)))))
              refine SxL.val trivial rfl rfl (fun ρ w E H => ex_move E rfl rfl) ?_
              refine SxL.val trivial rfl rfl (fun ρ w E H => ex_load (part := [.int .u8 (f : Int), .int .u8 (t : Int)]) E (H.get (i := 3) rfl) rfl rfl Tryz.underlying57 rfl sz_palaver_net_Pair rfl rfl) ?_
              refine SxL.val trivial rfl rfl (fun ρ w E H => ex_move E rfl rfl) ?_
              refine SxL.skipG _ trivial rfl (fun ρ w E H => Hp.putM (i := 9) (k := (f, t)) (v := (.int .u64 (kk : Int))) E H key_pair rfl rfl Tryz.underlying53 rfl rfl rfl) ?_
              refine SxL.nil (SxN.then_ (SxC.seq (SxC.region ?_)))
              iterate 2 refine SxL.val trivial rfl rfl (fun ρ w E H => ex_move E rfl rfl) ?_
              refine SxL.val (v := .pointer (some ((⟨gl, 0, none⟩ : Addr).add (kk * 1)))) trivial rfl rfl (fun ρ w E H => ex_index (i := kk) E rfl Tryz.underlying50 sz_int rfl rfl hkk) ?_
              refine SxL.val (v := .int .i64 (lv : Int)) trivial rfl rfl (fun ρ w E H => ex_loadX0 E ((own_readE iL_len (by decide) (H.get (i := 6) rfl)).rowA hlv) rfl rfl rfl Tryz.underlying3 rfl) ?_
              refine SxL.val (v := .int .i64 ((lv - 1 : Nat) : Int)) trivial rfl rfl (fun ρ w E H => ex_sub E rfl rfl rfl (by rw [IntKind.wrap_i64]; omega)) ?_
              refine SxL.val (v := .pointer (some ((⟨gl, 0, none⟩ : Addr).add (kk * 1)))) trivial rfl rfl (fun ρ w E H => ex_index (i := kk) E rfl Tryz.underlying50 sz_int rfl rfl hkk) ?_
              refine SxL.skipG _ trivial rfl (fun ρ w E H => Hp.storeEl (cells := iL) (l := ls) (y := (lv - 1)) (k := kk) (i := 6) iL_len E H rfl rfl rfl rfl hkk sz_int rfl rfl) ?_
              refine SxL.nil (SxN.then_ (SxC.region ?_))
              refine SxL.val trivial rfl rfl (fun ρ w E H => ex_move E rfl rfl) ?_
              refine SxL.val (v := .int .i64 ((bagK ps (ks.eraseIdx j)).length : Int)) trivial rfl rfl (fun ρ w E H => ex_sub E rfl rfl rfl (by rw [IntKind.wrap_i64]; omega)) ?_
              refine SxL.val trivial rfl rfl (fun ρ w E H => ex_assign E rfl rfl) ?_
              refine SxL.nil (SxN.block (SxN.then_ (SxC.seq (SxC.region ?_))))
              refine SxL.val trivial rfl rfl (fun ρ w E H => ex_move E rfl rfl) ?_
              refine SxL.callB (v := .int .i64 ((bagK ps (ks.eraseIdx j)).length : Int)) trivial rfl rfl (fun ρ w E => ex_call E en_palaver_net_Net_Len rfl rfl) (fun w H => len_any _ _ _ _ (bagK ps (ks.eraseIdx j)) _ w (H.get (i := 5) rfl)) ?_
              refine SxL.val trivial rfl rfl (fun ρ w E H => ex_move E rfl rfl) ?_
              refine SxL.val (v := .bool false) trivial rfl rfl (fun ρ w E H => ex_cmp E rfl rfl rfl rfl (by simp only [cmpB]; first | (rw [hbe]; simp; done) | (simp; done) | (rw [hbe]; simp; omega))) ?_
              refine SxL.nil (SxN.then_ (SxC.condF rfl (SxC.skip (SxN.block (SxN.then_ (SxC.region ?_))))))
              refine SxL.val trivial rfl rfl (fun ρ w E H => ex_move E rfl rfl) ?_
              refine SxL.val (v := .int .i64 ((i + 1 : Nat) : Int)) trivial rfl rfl (fun ρ w E H => ex_add E rfl rfl rfl (by rw [IntKind.wrap_i64]; omega)) ?_
              refine SxL.val trivial rfl rfl (fun ρ w E H => ex_assign E rfl rfl) ?_
              refine SxL.nil ?_
              refine SxN.back (gk - 1) (V79, (.slice (some ⟨gl, 0, none⟩) ls.length cL), (.slice (some ⟨gp, 0, none⟩) ps.length cP), gc, (i + 1), (ks.eraseIdx j), (ls.set kk (lv - 1)), ps, M, MC, (setM MT (f, t) (.int .u64 (kk : Int))), false) (by omega) ⟨show i + 1 + (gk - 1) = l.length by omega, ⟨_, hK.first hj hlv hpj (hfi (by have h := hc141; simpa [cmpB] using h))⟩, hq79.1, hvL, hvP, hgc⟩ ⟨rfl, rfl, rfl, rfl, rfl, rfl, rfl, rfl, rfl, trivial⟩ [5, 6, 7, 8, 9] rfl (by decide) ⟨.inr (fun g hg => by rw [List.mem_singleton.1 hg]; exact hg6), .inr (hq79.2.1.fresh), .inr (hq79.2.2.fresh), .inr (fun g hg => by rw [List.mem_singleton.1 hg]; exact hg2), .inr (fun g hg => by rw [List.mem_singleton.1 hg]; exact hg1), .inl rfl, .inl rfl, .inl rfl, .inl rfl, .inl rfl, trivial⟩
            · refine SxL.val (v := .bool false) ⟨_, _, rfl, rfl, rfl⟩ rfl rfl (fun ρ w E H => ex_not (t := true) E rfl rfl) ?_
              refine SxL.val trivial rfl rfl (fun ρ w E H => ex_pick E rfl (t := true) rfl rfl) ?_
              refine SxL.nil (SxN.then_ (SxC.condF rfl (SxC.skip (SxN.then_ (SxC.seq (SxC.region ?_))))))
              iterate 2 refine SxL.val trivial rfl rfl (fun ρ w E H => ex_move E rfl rfl) ?_
              refine SxL.val (v := .pointer (some ((⟨gl, 0, none⟩ : Addr).add (kk * 1)))) trivial rfl rfl (fun ρ w E H => ex_index (i := kk) E rfl Tryz.underlying50 sz_int rfl rfl hkk) ?_
              refine SxL.val (v := .int .i64 (lv : Int)) trivial rfl rfl (fun ρ w E H => ex_loadX0 E ((own_readE iL_len (by decide) (H.get (i := 6) rfl)).rowA hlv) rfl rfl rfl Tryz.underlying3 rfl) ?_
              refine SxL.val (v := .int .i64 ((lv - 1 : Nat) : Int)) trivial rfl rfl (fun ρ w E H => ex_sub E rfl rfl rfl (by rw [IntKind.wrap_i64]; omega)) ?_
              refine SxL.val (v := .pointer (some ((⟨gl, 0, none⟩ : Addr).add (kk * 1)))) trivial rfl rfl (fun ρ w E H => ex_index (i := kk) E rfl Tryz.underlying50 sz_int rfl rfl hkk) ?_
              refine SxL.skipG _ trivial rfl (fun ρ w E H => Hp.storeEl (cells := iL) (l := ls) (y := (lv - 1)) (k := kk) (i := 6) iL_len E H rfl rfl rfl rfl hkk sz_int rfl rfl) ?_
              refine SxL.nil (SxN.then_ (SxC.region ?_))
              refine SxL.val trivial rfl rfl (fun ρ w E H => ex_move E rfl rfl) ?_
              refine SxL.val (v := .int .i64 ((bagK ps (ks.eraseIdx j)).length : Int)) trivial rfl rfl (fun ρ w E H => ex_sub E rfl rfl rfl (by rw [IntKind.wrap_i64]; omega)) ?_
              refine SxL.val trivial rfl rfl (fun ρ w E H => ex_assign E rfl rfl) ?_
              refine SxL.nil (SxN.block (SxN.then_ (SxC.seq (SxC.region ?_))))
              refine SxL.val trivial rfl rfl (fun ρ w E H => ex_move E rfl rfl) ?_
              refine SxL.callB (v := .int .i64 ((bagK ps (ks.eraseIdx j)).length : Int)) trivial rfl rfl (fun ρ w E => ex_call E en_palaver_net_Net_Len rfl rfl) (fun w H => len_any _ _ _ _ (bagK ps (ks.eraseIdx j)) _ w (H.get (i := 5) rfl)) ?_
              refine SxL.val trivial rfl rfl (fun ρ w E H => ex_move E rfl rfl) ?_
              refine SxL.val (v := .bool false) trivial rfl rfl (fun ρ w E H => ex_cmp E rfl rfl rfl rfl (by simp only [cmpB]; first | (rw [hbe]; simp; done) | (simp; done) | (rw [hbe]; simp; omega))) ?_
              refine SxL.nil (SxN.then_ (SxC.condF rfl (SxC.skip (SxN.block (SxN.then_ (SxC.region ?_))))))
              refine SxL.val trivial rfl rfl (fun ρ w E H => ex_move E rfl rfl) ?_
              refine SxL.val (v := .int .i64 ((i + 1 : Nat) : Int)) trivial rfl rfl (fun ρ w E H => ex_add E rfl rfl rfl (by rw [IntKind.wrap_i64]; omega)) ?_
              refine SxL.val trivial rfl rfl (fun ρ w E H => ex_assign E rfl rfl) ?_
              refine SxL.nil ?_
              refine SxN.back (gk - 1) (V79, (.slice (some ⟨gl, 0, none⟩) ls.length cL), (.slice (some ⟨gp, 0, none⟩) ps.length cP), gc, (i + 1), (ks.eraseIdx j), (ls.set kk (lv - 1)), ps, M, MC, MT, true) (by omega) ⟨show i + 1 + (gk - 1) = l.length by omega, ⟨_, hK.take hj hlv⟩, hq79.1, hvL, hvP, hgc⟩ ⟨rfl, rfl, rfl, rfl, rfl, rfl, rfl, rfl, rfl, trivial⟩ [5, 6, 7, 8, 9] rfl (by decide) ⟨.inr (fun g hg => by rw [List.mem_singleton.1 hg]; exact hg6), .inr (hq79.2.1.fresh), .inr (hq79.2.2.fresh), .inr (fun g hg => by rw [List.mem_singleton.1 hg]; exact hg2), .inr (fun g hg => by rw [List.mem_singleton.1 hg]; exact hg1), .inl rfl, .inl rfl, .inl rfl, .inl rfl, .inl rfl, trivial⟩
  · refine SxC.condT rfl (SxC.seq (SxC.region ?_))
    refine SxL.callB (v := .bool true) trivial rfl rfl (fun ρ w E => ex_call E en_palaver_palaverlaw26_wakes rfl rfl) (fun w H => wakes_any w) ?_
    refine SxL.val trivial rfl rfl (fun ρ w E H => ex_assign E rfl rfl) ?_
    refine SxL.nil (SxN.then_ (SxC.ret (SxX.thenR ?_)))
    refine SxX.done (.bool true) (fun a w K H => res1 K rfl rfl) (fun w H => ?_)
    exact ⟨rfl, H.toBelow trivial⟩
end Go.Proofs.YteiaiilfekojfaaGreat.Net
end
