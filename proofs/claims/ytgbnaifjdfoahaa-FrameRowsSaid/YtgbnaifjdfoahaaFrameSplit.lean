/- All frames of a text: the program's Walk and Split, walked. Conditions: texts of at most 1,000,000 bytes. -/
import Derived.Test.YtgbnaifjdfoahaaFrames
import Derived.Shelf.RegionOpen
namespace Go.Proofs.Ytgbnaifjdfoahaa.Frame
open Go.RowKit Wire

attribute [local go_sem] Oper.semAt_some

theorem frames_any (s : List UInt8) (fst : Nat) (lst : Array Value) (w : World) :
    Calls Try.prog 69 #[.string ⟨s.toArray⟩, .func (.func fst) #[] lst] w fun e w' => e = .returned (.func (.func 85) #[] #[.pointer (some ⟨w.heap.size, 0, none⟩), .pointer (some ⟨w.heap.size + 1, 0, none⟩)]) ∧
      w' = (w.alloc (.cells #[.string ⟨s.toArray⟩] 9)).alloc (.cells #[.func (.func fst) #[] lst] 112) := by
  go_enter Try.func69, Try.ntmps69
  go_wp2
  go_ret
  exact ⟨rfl, rfl⟩
theorem walk_any (s : List UInt8) (w : World) :
    Calls Try.prog 38 #[.string ⟨s.toArray⟩] w fun e w' => e = .returned (.func (.func 85) #[] #[.pointer (some ⟨w.heap.size, 0, none⟩), .pointer (some ⟨w.heap.size + 1, 0, none⟩)]) ∧
      w' = (w.alloc (.cells #[.string ⟨s.toArray⟩] 9)).alloc (.cells #[.func (.func 72) #[] #[]] 112) := by
  go_enter Try.func38, Try.ntmps38
  go_wp2_with fail
  refine (frames_any s _ #[] _).mono ?_; rintro e w1 ⟨rfl, rfl⟩
  go_wp2_with fail
  go_ret
  exact ⟨rfl, rfl⟩
theorem stop_walk (n : Nat) (a b : Value) (w : World) : CallsIn Fence.wide n Try.prog 72 #[a, b] w fun e w' => (∃ v, e = .returned v) ∧ w' = w := by
  refine callsIn_wide.2 ?_
  go_enter Try.func72, Try.ntmps72
  go_wp2
  go_end0
  exact ⟨⟨_, rfl⟩, rfl⟩
theorem stop_split (n : Nat) (x y : Int) (b1 b2 : Nat) (u1 u2 : Value) (hne : b1 ≠ b2) (w : World) (h1 : Boxed w b1 3 u1) (h2 : Boxed w b2 46 u2) :
    CallsIn Fence.wide n Try.prog 70 #[.int .i64 x, .int .i64 y, .pointer (some ⟨b1, 0, none⟩), .pointer (some ⟨b2, 0, none⟩)] w fun e w' => (∃ v, e = .returned v) ∧ w' = (w.setCell ⟨b1, 0, none⟩ (.int .i64 x)).setCell ⟨b2, 0, none⟩ (.int .i64 y) := by
  refine callsIn_wide.2 ?_
  have c1 := h1.cell
  have f1 := h1.frozen
  have h3 := h2.other hne.symm (.int .i64 x)
  have c2 := h3.cell
  have f2 := h3.frozen
  clear h1 h2 h3
  go_enter Try.func70, Try.ntmps70
  go_wp2
  go_end0
  exact ⟨⟨_, rfl⟩, rfl⟩

/-- Some blocks lie as they lay. -/
def KpL (L : Nat → Prop) (A B : World) : Prop := ∀ i, L i → B.heap[i]? = A.heap[i]?
theorem KpL.t {L : Nat → Prop} {A B C : World} (h : KpL L A B) (k : KpL L B C) : KpL L A C := fun i hi => (k i hi).trans (h i hi)
theorem KpL.b {L : Nat → Prop} {w : World} (hL : ∀ i, L i → i < w.heap.size) (W : World) (l : Nat) (o o' : Obj) (hl : w.heap.size ≤ l) (_ : W.heap[l]? = some o) (_ : o.isCells = false) (_ : o.isWalk = false) : KpL L W (W.putObj l o') :=
  fun i hi => World.putObj_heap_other (by have := hL i hi; omega)
theorem KpL.below {L : Nat → Prop} {w A B : World} (hL : ∀ i, L i → i < w.heap.size) (h : KpL L w A) (hb : Below A.heap.size A B) : KpL L w B := fun i hi => by
  have hw := h i hi
  have hA : i < A.heap.size := by
    rcases Nat.lt_or_ge i A.heap.size with h1 | h1
    · exact h1
    · rw [Array.getElem?_eq_none h1, Array.getElem?_eq_getElem (hL i hi)] at hw; cases hw
  exact (hb.block i hA).trans hw
theorem KpL.boxed {L : Nat → Prop} {w A : World} {i : Nat} {t : TypeId} {v : Value} (h : KpL L w A) (hi : L i) (hb : Boxed w i t v) : Boxed A i t v := (h i hi).trans hb
theorem frames_stops (n : Nat) (s : List UInt8) (hs : s.length ≤ 1000000) (w : World) (L : Nat → Prop) (hL : ∀ i, L i → i < w.heap.size) (bs bt fst : Nat) (lst : Array Value) (hbs : L bs) (hbt : L bt)
    (est : ∀ args w, (callFunc fst args).run Try.prog w = .ok (.enter fst args) w)
    (ks : Boxed w bs 9 (.string ⟨s.toArray⟩)) (kt : Boxed w bt 112 (.func (.func fst) #[] lst)) (Fin : World → World → Prop)
    (hStop : ∀ A, KpL L w A → CallsIn Fence.wide (n - 1) Try.prog fst (#[.int .i64 (endOf s : Int), .int .i64 (whyOf s : Int)] ++ lst) A fun e B => (∃ v, e = .returned v) ∧ Fin A B) :
    SeqStopsF Fence.wide n Try.prog 85 #[] #[.pointer (some ⟨bs, 0, none⟩), .pointer (some ⟨bt, 0, none⟩)] encF (KpL L) (fun xs => xs = framesOf s) (fun pre => pre <+: framesOf s) (fun A B => KpL L w A ∧ Fin A B) w := fun l J Jx W hW hJ _ hY h0 => by
  have h := frames_in n s hs bs bt fst lst l (KpL L) J Jx (KpL L w) Fin W est (fun A B hA hB => hA.t hB) (fun A B hA hB => hA.below hL hB) (fun X X' pre hx hb => hJ pre X X' none hx (only_of_below hb none) (fun r e => by cases e))
    (fun A hA => (hA.boxed hbs ks).cell) (fun A hA => (hA.boxed hbt kt).cell) hStop hY h0 (fun i hi => hW.block i (hL i hi))
  simpa using h

theorem split_props : ∀ (k : Nat) (s : List UInt8) (at_ : Nat), (splitF k s at_).1.length ≤ s.length ∧
    ∀ pre x, pre ++ [x] <+: (splitF k s at_).1 → x.1 = at_ + (pre.map fun y => (frameB y.2).length).sum ∧ 0 < x.2.length ∧ x.2.length ≤ 65536 ∧ x.1 + (frameB x.2).length ≤ at_ + s.length := by
  intro k
  induction k with
  | zero =>
    intro s at_
    refine ⟨by simp [splitF], fun pre x h => ?_⟩
    have := h.length_le
    simp [splitF] at this
  | succ k ih =>
    intro s at_
    rw [splitF]
    by_cases hs : s = []
    · rw [if_pos hs]
      refine ⟨by simp, fun pre x h => ?_⟩
      have := h.length_le
      simp at this
    · rw [if_neg hs]
      by_cases he : (takeF s).2.2 ≠ 0
      · rw [if_pos he]
        refine ⟨by simp, fun pre x h => ?_⟩
        have := h.length_le
        simp at this
      · rw [if_neg he]
        have he0 : (takeF s).2.2 = 0 := Decidable.not_not.1 he
        have hpos := take_pos s he0
        obtain ⟨a, n, e, hp⟩ : ∃ a n e, takeF s = (a, n, e) := ⟨_, _, _, rfl⟩
        rw [hp] at he0 hpos ⊢
        simp only at he0 hpos ⊢
        subst he0
        obtain ⟨h0, h1, h2, h3⟩ := take_back s a n hp
        obtain ⟨g1, g2⟩ := ih (s.drop n) (at_ + n)
        rw [List.length_drop] at g1 g2
        refine ⟨by rw [List.length_cons]; omega, fun pre x h => ?_⟩
        cases pre with
        | nil =>
          rw [List.nil_append, List.cons_prefix_cons] at h
          obtain ⟨rfl, _⟩ := h
          exact ⟨by simp, h0, h1, by simp only; omega⟩
        | cons y pre =>
          rw [List.cons_append, List.cons_prefix_cons] at h
          obtain ⟨rfl, h⟩ := h
          obtain ⟨q1, q2, q3, q4⟩ := g2 pre x h
          refine ⟨?_, q2, q3, by omega⟩
          rw [q1, List.map_cons, List.sum_cons, ← h2]
          omega
theorem frames_len (s : List UInt8) : (framesOf s).length ≤ s.length := (split_props _ s 0).1
theorem info_str : (Try.prog.info? 9).map (fun i => (i.zero, i.size, i.bytes)) = some (some (.string ⟨#[]⟩), 1, 16) := by kernel_rfl
def strV (x : List UInt8) : Value := .string ⟨x.toArray⟩
def sv (l : List (List UInt8)) : List Value := l.map strV
/-- A call hands back texts of its own, a place and an error. -/
def RetSplit (w : World) (s : List UInt8) (e : Ending) (w' : World) : Prop :=
  ∃ v, e = .returned (.tuple #[v, .int .i64 (endOf s : Int), .int .i64 (whyOf s : Int)]) ∧ w'.ownsRow w.heap.size 9 1 v (framesOf s).length (sv ((framesOf s).map Prod.snd)) ∧ Below w.heap.size w w'
theorem own_base {W : World} {b b' : Nat} {e : TypeId} {size n : Nat} {v : Value} {xs : List Value} (h : W.ownsRow b e size v n xs) (hb : b' ≤ b) : W.ownsRow b' e size v n xs := by
  refine ⟨h.1, ?_⟩
  rcases h.2 with h2 | ⟨g, cap, cur, h1, h2, h3⟩
  · exact .inl h2
  · exact .inr ⟨g, cap, cur, h1, Nat.le_trans hb h2, h3⟩
theorem own_ge {W : World} {b : Nat} {e : TypeId} {size n : Nat} {v : Value} {xs : List Value} (h : W.ownsRow b e size v n xs) {i : Nat} (hi : i < b) : some i ≠ v.ownBlock := by
  rcases h.2 with ⟨rfl, _⟩ | ⟨g, cap, cur, rfl, h2, _⟩
  · simp [Value.ownBlock]
  · intro e
    have : i = g := by simpa [Value.ownBlock] using e
    omega
def SplI (w : World) (f : Nat → Value) (pre : List (Nat × List UInt8)) (W : World) : Prop :=
  (∃ v, Boxed W w.heap.size 59 v ∧ W.ownsRow (w.heap.size + 5) 9 1 v pre.length (sv (pre.map Prod.snd)) ∧ True) ∧ (Boxed W (w.heap.size + 1) 3 (f 0) ∧ (Boxed W (w.heap.size + 2) 46 (f 1) ∧ (Below w.heap.size w W ∧ w.heap.size + 5 ≤ W.heap.size)))
theorem spl_own (w : World) (f : Nat → Value) (B : Nat) (hB : w.heap.size ≤ B) : OwnFrom B (SplI w f) :=
  OwnFrom.and (Own.from (holdsRow_own (w.heap.size + 5) w.heap.size 59 9 1 (fun pre : List (Nat × List UInt8) => pre.length) (fun pre => sv (pre.map Prod.snd)) (fun _ _ => True)) _)
    (OwnFrom.and (Own.from (boxed_own (w.heap.size + 1) 3 (fun _ => f 0)) _) (OwnFrom.and (Own.from (boxed_own (w.heap.size + 2) 46 (fun _ => f 1)) _) (OwnFrom.and (ownFrom_below (Nat.le_refl _) hB) (fun _ _ _ _ hs hg _ => Nat.le_trans hs hg.size))))
theorem spl_fin {w A : World} {pre : List (Nat × List UInt8)} {x y : Value} (h : SplI w (fun _ => .int .i64 0) pre A) :
    SplI w (fun i => if i = 0 then x else y) pre ((A.setCell ⟨w.heap.size + 1, 0, none⟩ x).setCell ⟨w.heap.size + 2, 0, none⟩ y) := by
  obtain ⟨⟨v, h0, hr, _⟩, h1, h2, hb, hz⟩ := h
  have r1 := hr.kept (grownBy_setCell' A (w.heap.size + 1) x) (.inr (own_ge hr (by omega)).symm)
  have h2' := h2.other (B' := w.heap.size + 1) (by omega) x
  have r2 := r1.kept (grownBy_setCell' _ (w.heap.size + 2) y) (.inr (own_ge r1 (by omega)).symm)
  refine ⟨⟨v, (h0.other (by omega) x).other (by omega) y, r2, trivial⟩, ?_, ?_, ?_, by simpa [World.setCell] using hz⟩
  · exact (h1.set x).other (by omega) y
  · exact h2'.set y
  · exact (hb.setCell (p := ⟨w.heap.size + 1, 0, none⟩) (by simp) x).setCell (p := ⟨w.heap.size + 2, 0, none⟩) (by simp) y
def splF (w : World) : Value := .func (.func 70) #[] #[.pointer (some ⟨w.heap.size + 1, 0, none⟩), .pointer (some ⟨w.heap.size + 2, 0, none⟩)]
def splW (w : World) (s : List UInt8) : World :=
  ((((w.alloc (.cells #[.slice none 0 0] 59)).alloc (.cells #[.int .i64 0] 3)).alloc (.cells #[.int .i64 0] 46)).alloc (.cells #[.string ⟨s.toArray⟩] 9)).alloc (.cells #[splF w] 112)
theorem splW_facts (w : World) (s : List UInt8) :
    Boxed (splW w s) w.heap.size 59 (.slice none 0 0) ∧ Boxed (splW w s) (w.heap.size + 1) 3 (.int .i64 0) ∧ Boxed (splW w s) (w.heap.size + 2) 46 (.int .i64 0) ∧
    Boxed (splW w s) (w.heap.size + 3) 9 (.string ⟨s.toArray⟩) ∧ Boxed (splW w s) (w.heap.size + 4) 112 (splF w) ∧ Below w.heap.size w (splW w s) ∧ (splW w s).heap.size = w.heap.size + 5 := by
  have k := (((((Kg.refl w).new 59 #[.slice none 0 0]).new 3 #[.int .i64 0]).new 46 #[.int .i64 0]).new 9 #[.string ⟨s.toArray⟩]).new 112 #[splF w]
  simp only [World.size_alloc, Nat.add_assoc, Nat.reduceAdd] at k
  exact ⟨k.i5, k.i4, k.i3, k.i2, k.i1, k.bw, by simp [splW]⟩
set_option linter.unusedSimpArgs false in
set_option maxRecDepth 100000 in
set_option maxHeartbeats 4000000 in
theorem split_any (s : List UInt8) (hs : s.length ≤ 1000000) (w : World) : Calls Try.prog 33 #[.string ⟨s.toArray⟩] w fun e w' => RetSplit w s e w' := by
  obtain ⟨i0, hi, hz0, hz1, hz2⟩ := info_parts info_str
  refine (callsIn_wide (n := 5)).1 ?_
  refine callsIn_of_wp_marks Try.func33 rfl trivial ?_ rfl
  simp only [Try.ntmps33, List.size_toArray, List.length_cons, List.length_nil, Nat.reduceAdd, Nat.reduceSub, Array.replicate_succ, Array.replicate_zero, List.push_toArray, List.append_toArray, List.nil_append, List.cons_append]
  gi_wp2_with (refine ⟨trivial, ?_⟩; gi_at_call 69; refine (callsIn_wide.2 (frames_any s 70 #[.pointer (some ⟨w.heap.size + 1, 0, none⟩), .pointer (some ⟨w.heap.size + 2, 0, none⟩)] _)).mono ?_; rintro e w' ⟨rfl, rfl⟩)
  have HW := splW_facts w s
  unfold splW splF at HW
  generalize (((((w.alloc (.cells #[.slice none 0 0] 59)).alloc (.cells #[.int .i64 0] 3)).alloc (.cells #[.int .i64 0] 46)).alloc (.cells #[.string ⟨s.toArray⟩] 9)).alloc (.cells #[.func (.func 70) #[] #[.pointer (some ⟨w.heap.size + 1, 0, none⟩), .pointer (some ⟨w.heap.size + 2, 0, none⟩)]] 112)) = W0 at *
  obtain ⟨k0, k1, k2, k3, k4, hb0, hs0⟩ := HW
  have hL : ∀ i, (fun i => w.heap.size + 1 ≤ i ∧ i ≤ w.heap.size + 4) i → i < W0.heap.size := by intro i hi; obtain ⟨h1, h2⟩ := hi; omega
  refine range_fin rfl (by omega) (gf := 85) (bd := #[]) (lb := #[.pointer (some ⟨w.heap.size + 3, 0, none⟩), .pointer (some ⟨w.heap.size + 4, 0, none⟩)]) rfl trivial (enters_of Try.func85 (by kernel_rfl) rfl)
    (frames_stops _ s hs W0 (fun i => w.heap.size + 1 ≤ i ∧ i ≤ w.heap.size + 4) hL (w.heap.size + 3) (w.heap.size + 4) 70 #[.pointer (some ⟨w.heap.size + 1, 0, none⟩), .pointer (some ⟨w.heap.size + 2, 0, none⟩)] ⟨by omega, by omega⟩ ⟨by omega, by omega⟩ (enters_of Try.func70 (by kernel_rfl) rfl) k3 k4
      (fun A B => B = (A.setCell ⟨w.heap.size + 1, 0, none⟩ (.int .i64 (endOf s : Int))).setCell ⟨w.heap.size + 2, 0, none⟩ (.int .i64 (whyOf s : Int))) (fun A hA => stop_split _ _ _ _ _ _ _ (by omega) A (hA.boxed ⟨by omega, by omega⟩ k1) (hA.boxed ⟨by omega, by omega⟩ k2)))
    (fun h k => h.t k) (KpL.b hL) (Below.refl _ _) (fun _ => rfl)
    (SplI w (fun _ => .int .i64 0)) (SplI w (fun i => if i = 0 then .int .i64 (endOf s : Int) else .int .i64 (whyOf s : Int))) (spl_own w _ _ (by omega)) (fun xs A B _ hA hF => by rw [hF.2]; exact spl_fin hA)
    (fun xs A B hA hF r o hr ho hc => by
      rw [hF.2]
      refine (KeepsOthers.setCell _ _ _).same _ _ ((KeepsOthers.setCell _ _ _).same _ _ ho hc) hc)
    (fun _ _ _ => False) (spl_own w _ _ (by omega)) (fun _ _ _ _ _ h _ _ => h) ⟨⟨_, k0, World.ownsRow_nil _ _ _ _, trivial⟩, k1, k2, hb0, Nat.le_of_eq hs0.symm⟩ ?a1 ?assign ?body ?done ?stop
  case assign =>
    intro l x W K hK
    unfold encF
    gi_wp2
    exact hK
  case stop =>
    intro D c pre W hD hpre hI hK
    exact hI.elim
  case body =>
    rintro l pre x W ⟨⟨v, hv, hrow, _⟩, h1, h2, hB, hz⟩ hpf
    have hlt : pre.length < s.length + 1 := by
      have h1 := hpf.length_le
      have h2 := frames_len s
      rw [List.length_append, List.length_singleton] at h1
      omega
    have hc := hv.cell
    gi_wp2_with (gi_at_builtin; refine wpListIn_append_own _ rfl _ _ 59 rfl (w.heap.size + 5) 9 i0 (.string ⟨#[]⟩) 1 16 Try.underlying59 hi hz0 hz1 hz2 rfl (by decide) _ _ _ rfl (hrow.alloc _) ⟨W.heap.size, 0, none⟩ 1 1 [strV x.2] rfl rfl (cell_one_new _ _ _) (by simp [Value.oneCell', strV]) (by unfold maxLen; omega) (by omega) (by simp; omega) ?_; intro v' w1 hown' hgrow _; obtain ⟨g', cap', rfl⟩ := ownsRow_succ hown'; obtain ⟨hv1, hv2, hr2, hk2, hb2⟩ := hv.appended (by decide) (own_base hrow (b' := w.heap.size) (by omega)) hB.size (by omega) (own_base hown' (b' := w.heap.size) (by omega)) hgrow; have hc1 := hv1.cell; have hf1 := hv1.frozen; have hc2 := hv2.cell)
    have hkp : KpL (fun i => w.heap.size + 1 ≤ i ∧ i ≤ w.heap.size + 4) W (w1.setCell ⟨w.heap.size, 0, none⟩ (.slice (some ⟨g', 0, none⟩) (pre.length + 1) cap')) := fun i hi => by
      obtain ⟨g1, g2⟩ := hi
      have hi1 : i < W.heap.size := by omega
      rw [Below.heap_setCell w1 ⟨w.heap.size, 0, none⟩ _ i (by simp only; omega)]
      refine (hgrow.block i (by simp; omega) (own_ge hrow (by omega))).trans (Below.heap_alloc W _ i hi1)
    have hr3 := hown'.kept (grownBy_setCell' w1 w.heap.size (.slice (some ⟨g', 0, none⟩) (pre.length + 1) cap')) (.inr (own_ge hown' (by omega)).symm)
    refine ⟨hk2.from _, hkp, ⟨_, hv2, by simpa [sv] using hr3, trivial⟩, (hkp _ ⟨by omega, by omega⟩).trans h1, (hkp _ ⟨by omega, by omega⟩).trans h2, hB.trans hb2, ?_⟩
    exact Nat.le_trans hz hk2.size
  case done =>
    rintro D xs W hD rfl ⟨⟨v, hv, hrow, _⟩, h1, h2, hB, hz⟩ hK
    have c0 := hv.cell
    have c1 : W.cell? ⟨w.heap.size + 1, 0, none⟩ = some (.int .i64 (endOf s : Int)) := h1.cell
    have c2 : W.cell? ⟨w.heap.size + 1 + 1, 0, none⟩ = some (.int .i64 (whyOf s : Int)) := h2.cell
    clear h1 h2 k0 k1 k2 k3 k4 hL
    have hKd : W.drew.heap[D]? = some (.deferred (some [])) := hK
    have hrd : W.drew.ownsRow w.heap.size 9 1 v (framesOf s).length (sv ((framesOf s).map Prod.snd)) := own_base hrow (b' := w.heap.size) (by omega)
    have hb2 := hB.drew.trans (belowK_b (w := w) (Nat.le_refl _) W.drew D (.deferred (some [])) (.deferred none) (by omega) hKd rfl rfl)
    have hrow2 := ownsRow_putObj hrd (.deferred none) hKd rfl
    have hfo : Try.prog.follows .mixedOrders = true := by kernel_rfl
    gi_wp2
    gi_region_o
    gi_wp2
    refine ⟨by simp, .inl ⟨_, _, rfl, run_takeDeferred hKd, ?_⟩⟩
    refine ⟨_, results_tmp3 rfl _ _ _, ?_⟩
    exact ⟨v, rfl, hrow2, hb2⟩
end Go.Proofs.Ytgbnaifjdfoahaa.Frame
