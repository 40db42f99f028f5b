/- The nodes of a configuration ahead, each once, in plain Lean; slices.Collect over a set's nodes, walked. Conditions: those each law names. -/
import Derived.Test.YtbamfnlgapchkaaThY
namespace Go.Proofs.Ytbamfnlgapchkaa.Thr
open Go Go.RowKit Mem DrawInv Chn

attribute [local go_sem] Oper.semAt_some
/-- One node more: those told behind it. -/
def ahF (L out : List Nat) (x : Nat) : List Nat := if hasL L x = true ∧ hasL out x = false then out ++ [x] else out
def outT (L xs : List Nat) : List Nat := xs.foldl (ahF L) []
theorem ahead_fold (L : List Nat) : ∀ xs told : List Nat, told ++ aheadT L xs told = xs.foldl (ahF L) told
  | [], told => by simp [aheadT]
  | x :: xs, told => by
    unfold aheadT
    rw [List.foldl_cons]
    by_cases h : hasL L x = true ∧ hasL told x = false
    · rw [if_pos h, show ahF L told x = told ++ [x] from if_pos h, ← ahead_fold L xs (told ++ [x])]
      simp
    · rw [if_neg h, show ahF L told x = told from if_neg h]
      exact ahead_fold L xs told
theorem ahead_out (L xs : List Nat) : aheadT L xs [] = outT L xs := by have := ahead_fold L xs []; unfold outT; simpa using this
theorem out_snoc (L xs : List Nat) (x : Nat) : outT L (xs ++ [x]) = ahF L (outT L xs) x := by unfold outT; rw [List.foldl_append]; rfl
theorem fold_prefix (L : List Nat) : ∀ ys out : List Nat, out <+: ys.foldl (ahF L) out
  | [], out => List.prefix_refl _
  | y :: ys, out => by
    rw [List.foldl_cons]
    refine List.IsPrefix.trans ?_ (fold_prefix L ys _)
    unfold ahF
    split
    · exact List.prefix_append _ _
    · exact List.prefix_refl _
theorem out_prefix (L xs ys : List Nat) : outT L xs <+: outT L (xs ++ ys) := by unfold outT; rw [List.foldl_append]; exact fold_prefix L ys _
theorem out_fine (L : List Nat) : ∀ (xs out : List Nat), out.Nodup → (∀ x ∈ out, x ∈ L) → (xs.foldl (ahF L) out).Nodup ∧ ∀ x ∈ xs.foldl (ahF L) out, x ∈ L
  | [], out, h1, h2 => ⟨h1, h2⟩
  | y :: ys, out, h1, h2 => by
    rw [List.foldl_cons]
    unfold ahF
    split
    · rename_i h
      have hy : y ∉ out := fun hm => by have := has_iff.2 hm; rw [h.2] at this; cases this
      refine out_fine L ys _ ?_ ?_
      · rw [List.nodup_append]
        exact ⟨h1, by simp, by intro a ha b hb e; simp at hb; subst hb; subst e; exact hy ha⟩
      · intro z hz
        rcases List.mem_append.1 hz with h' | h'
        · exact h2 z h'
        · simp at h'; subst h'; exact has_iff.1 h.1
    · exact out_fine L ys _ h1 h2
theorem out_nodup (L xs : List Nat) : (outT L xs).Nodup := (out_fine L xs [] List.nodup_nil (by simp)).1
theorem out_sub (L xs : List Nat) : ∀ x ∈ outT L xs, x ∈ L := (out_fine L xs [] List.nodup_nil (by simp)).2
theorem list_lt7 (c : Nat) : ∀ x ∈ listN c, x < 7 := fun x h => ((mem_list c x).1 h).1
theorem out_len (c : Nat) (xs : List Nat) : (outT (listN c) xs).length ≤ 7 := by
  have := nodup_sub_len (m := List.range 7) (out_nodup (listN c) xs) (fun x hx => List.mem_range.2 (list_lt7 c x (out_sub _ _ x hx)))
  simpa using this
theorem set_snoc (out : List Nat) (x : Nat) : withN (setN out) (ofN [x]) = setN (out ++ [x]) := by
  refine eq_of_bits _ _ (with_lt _ _) (set_lt _) fun i hi => ?_
  rw [test_with _ _ _ hi, set_test _ _ hi, set_test _ _ hi, mem_of _ _ hi]
  unfold hasL
  by_cases h1 : i ∈ out <;> by_cases h2 : i = x <;> simp [h1, h2]
theorem has_set (out : List Nat) {x : Nat} (hx : x < 7) : hasB (setN out) x = hasL out x := by rw [has_bit' _ _ hx, set_test _ _ hx]
theorem len_set {out : List Nat} (h1 : out.Nodup) (h2 : ∀ x ∈ out, x < 7) : lenN (setN out) = out.length := by
  rw [← len_list]
  refine ((List.perm_ext_iff_of_nodup (list_nodup _) h1).2 fun x => ?_).length_eq
  rw [mem_list]
  constructor
  · rintro ⟨h, h'⟩
    rw [set_test _ _ h] at h'
    exact has_iff.1 h'
  · intro h
    exact ⟨h2 x h, by rw [set_test _ _ (h2 x h)]; exact has_iff.2 h⟩
/-- All cells but one block's lie as they lay. -/
def KpC (ga : Nat) (A B : World) : Prop := ∀ (p : Addr) (u : Value), p.block ≠ ga → A.cell? p = some u → B.cell? p = some u
theorem KpC.refl (ga : Nat) (A : World) : KpC ga A A := fun _ _ _ h => h
theorem KpC.trans {ga : Nat} {A B C : World} (h : KpC ga A B) (k : KpC ga B C) : KpC ga A C := fun p u hp hc => k p u hp (h p u hp hc)
theorem cell_lt2 {w : World} {p : Addr} {u : Value} (h : w.cell? p = some u) : p.block < w.heap.size := by
  rcases Nat.lt_or_ge p.block w.heap.size with h' | h'
  · exact h'
  · unfold World.cell? at h
    rw [Array.getElem?_eq_none h'] at h
    cases h
theorem KpC.of_below {ga : Nat} {A B : World} (h : Below A.heap.size A B) : KpC ga A B := fun _ _ _ hc => (h.cell (cell_lt2 hc)).trans hc
theorem KpC.putObj {ga l : Nat} {W : World} {o : Obj} (o' : Obj) (hl : W.heap[l]? = some o) (ho : o.isCells = false) : KpC ga W (W.putObj l o') := fun p u _ hc => by
  have hne : p.block ≠ l := fun he => by
    unfold World.cell? at hc
    rw [he, hl] at hc
    cases o <;> simp [Obj.isCells] at ho hc
  exact (World.cell?_of_block (World.putObj_heap_other hne)).trans hc
theorem KpC.set {ga : Nat} (W : World) (u : Value) : KpC ga W (W.setCell ⟨ga, 0, none⟩ u) := fun p _ hp hc => (World.cell?_setCell_other W ⟨ga, 0, none⟩ p u (fun e => hp (by subst e; rfl))).trans hc
/-- A list of nodes lies in memory, apart from a block. -/
def Lst (ga : Nat) (W : World) (A : Option Addr) (n : Nat) (l : List Nat) : Prop := l.length = n ∧ ∀ (j x : Nat), l[j]? = some x → ∃ ad, A = some ad ∧ ad.block ≠ ga ∧ W.cell? (ad.add j) = some (.int .u8 (x : Int))
theorem Lst.kp {ga : Nat} {W W' : World} {A : Option Addr} {n : Nat} {l : List Nat} (h : Lst ga W A n l) (k : KpC ga W W') : Lst ga W' A n l := ⟨h.1, fun j x hx => by
  obtain ⟨ad, e, hb, hc⟩ := h.2 j x hx
  exact ⟨ad, e, hb, k _ _ (by rw [block_of_add]; exact hb) hc⟩⟩
theorem Lst.of_own {ga B : Nat} {W : World} {A : Option Addr} {n c : Nat} {l : List Nat} (h : W.ownsRow B 5 1 (.slice A n c) n (l.map u8v)) (hne : (Value.slice A n c).ownBlock ≠ some ga) : Lst ga W A n l := by
  have hl := h.1
  rw [List.length_map, Nat.mul_one] at hl
  refine ⟨hl, fun j x hx => ?_⟩
  have hj : j < l.length := (List.getElem?_eq_some_iff.1 hx).1
  obtain ⟨g, cap, hv, _, hlt⟩ := h.form (by omega)
  have hA : A = some ⟨g, 0, none⟩ := by injection hv
  subst hA
  refine ⟨_, rfl, fun e => hne (by rw [← show g = ga from e]; rfl), ?_⟩
  obtain ⟨ad, u, e1, _, hu, hc⟩ := (Reads.of_own h).at_ (k := j) (by omega)
  cases e1
  rw [hc, ← hu, List.getElem?_map, hx]
  rfl
/-- What AppendSeq holds between two rounds. -/
def AppAt (w : World) (pre : List Nat) (W : World) : Prop :=
  (∃ v, Boxed W w.heap.size 22 v ∧ W.ownsRow w.heap.size 5 1 v pre.length (pre.map u8v) ∧ True) ∧ Below w.heap.size w W
theorem app_own (w : World) (B : Nat) (hB : w.heap.size ≤ B) : OwnFrom B (AppAt w) :=
  OwnFrom.and (Own.from (holdsRow_own w.heap.size w.heap.size 22 5 1 (fun pre : List Nat => pre.length) (fun pre => pre.map u8v) (fun _ _ => True)) _) (ownFrom_below (Nat.le_refl _) hB)
/-- A row in new memory is handed back. -/
def OwnRet (w : World) (l : List Nat) (e : Ending) (w' : World) : Prop := ∃ u, e = .returned u ∧ w'.ownsRow w.heap.size 5 1 u l.length (l.map u8v) ∧ Below w.heap.size w w'
set_option maxRecDepth 100000 in
set_option maxHeartbeats 2000000 in
theorem appseq_any (s : Nat) (hs : s < 256) (w : World) : Calls Try.prog 95 #[.slice none 0 0, .func (.func 96) #[.int .u8 (s : Int)] #[]] w fun e w' => OwnRet w (listN s) e w' := by
  obtain ⟨i0, hi, hz0, hz1, hz2⟩ := info_parts info_u8
  refine (callsIn_wide (n := 5)).1 ?_
  refine callsIn_of_wp_marks Try.func95 rfl trivial ?_ rfl
  simp only [Try.ntmps95, List.size_toArray, List.length_cons, List.length_nil, Nat.reduceAdd, Nat.reduceSub, Array.replicate_succ, Array.replicate_zero, List.push_toArray, List.append_toArray, List.nil_append, List.cons_append]
  gi_wp2
  have bO := Boxed.new w 22 (.slice none 0 0)
  have hB0 : Below w.heap.size w (w.alloc (.cells #[.slice none 0 0] 22)) := (Below.refl _ w).alloc (Nat.le_refl _) _
  refine range_bound rfl (by omega) (gf := 96) (bd := #[.int .u8 (s : Int)]) (lb := #[]) rfl trivial (enters_of Try.func96 (by kernel_rfl) rfl)
    (each_stops _ s hs (Below w.heap.size) _) belowK_t (belowK_b (by simp)) (Below.refl _ _) (fun _ => rfl)
    (AppAt w) (fun _ _ _ => False) (app_own w _ (by simp)) (fun _ _ _ _ _ h _ _ => h)
    ⟨⟨_, bO, World.ownsRow_nil _ _ _ _, trivial⟩, hB0⟩
    ?a1 ?assign ?body ?done ?stop
  case assign =>
    intro l x W K hK
    gi_wp2
    exact hK
  case body =>
    rintro l pre x W ⟨⟨v, hv, hrow, _⟩, hB⟩ hlt
    have hc := hv.cell
    gi_wp2_with (gi_at_builtin; refine wpListIn_append_own _ rfl _ _ 22 rfl w.heap.size 5 i0 (.int .u8 0) 1 1 Try.underlying22 hi hz0 hz1 hz2 rfl (by decide) _ _ _ rfl (hrow.alloc _) ⟨W.heap.size, 0, none⟩ 1 1 [.int .u8 (x : Int)] rfl rfl (cell_one_new _ _ _) (by simp [Value.oneCell']) (by unfold maxLen; omega) (by omega) (by have := hB.size; simp; omega) ?_; intro v' w1 hown' hgrow _; obtain ⟨g', cap', rfl⟩ := ownsRow_succ hown'; obtain ⟨hv1, hv2, hr2, hk2, hb2⟩ := hv.appended (by decide) hrow hB.size (by omega) hown' hgrow; have hc1 := hv1.cell; have hf1 := hv1.frozen)
    exact ⟨hk2.from _, hb2, ⟨⟨_, hv2, by simpa [u8v] using hr2, trivial⟩, hB.trans hb2⟩⟩
  case done =>
    rintro D ys W hD rfl ⟨⟨v, hv, hrow, _⟩, hB⟩ hK
    have hc := hv.cell
    have hrow2 := ownsRow_putObj hrow (.deferred none) hK rfl
    obtain ⟨A, c, hv', hr⟩ := own_slice hrow2
    subst hv'
    have hb := hB.trans (belowK_b (w := w) (Nat.le_refl _) W D (.deferred (some [])) (.deferred none) (by simp at hD; omega) hK rfl rfl)
    gi_wp2
    refine ⟨by simp, .inl ⟨_, _, rfl, run_takeDeferred hK, ?_⟩⟩
    refine ⟨_, results_tmp rfl _ _ _, ?_⟩
    exact ⟨_, rfl, hrow2, hb⟩
  case stop =>
    rintro D c pre W hD hpre hF hK
    exact hF.elim
theorem collect_any (s : Nat) (hs : s < 256) (w : World) : Calls Try.prog 91 #[.func (.func 96) #[.int .u8 (s : Int)] #[]] w fun e w' => OwnRet w (listN s) e w' := by
  have HC := Lib.hid (appseq_any s hs w)
  go_enter Try.func91, Try.ntmps91
  go_wp2_with fail
  refine HC.out.mono ?_; rintro e w2 hrr
  obtain ⟨u, rfl, hu⟩ := hrr
  have HU := Lib.hid hu
  clear hu
  go_wp2_with fail
  go_ret
  exact ⟨u, rfl, HU.out⟩
end Go.Proofs.Ytbamfnlgapchkaa.Thr
