/- The reference of a queue of commands, walked. Conditions: the lists can be read. -/
import Derived.Test.YtgpdggojajjppaaBatQ
import Derived.Test.YtgpdggojajjppaaCmdMay
namespace Go.Proofs.Ytgpdggojajjppaa.Bat
open Go.RowKit Wire Cmd DrawInv

theorem rows_take {w : World} {A : Option Addr} {l : List Cm} (h : Rows w A 7 cmL l) (n : Nat) : Rows w A 7 cmL (l.take n) := by
  intro k x hk
  rw [List.getElem?_take] at hk
  split at hk
  · exact h k x hk
  · cases hk
theorem rows_drop {w : World} {A : Option Addr} {l : List Cm} {n c : Nat} (hr : Rows w A 7 cmL l) (hnl : n ≤ l.length) (hcap : l.length ≤ c) : Rows w (cutA A n c) 7 cmL (l.drop n) := by
  have h := (rows_reads cmL_len (by omega) hr).cut hnl hcap
  rw [flat_drop cmL_len] at h
  refine reads_rows (l := l.drop n) cmL_len ?_
  rw [List.length_drop]
  exact h
set_option maxRecDepth 100000 in
set_option maxHeartbeats 4000000 in
theorem refFind_any (l : List Cm) (hl : l.length ≤ 9223372036854775807) (A : Option Addr) (c k : Nat) (w : World) (hA : Rows w A 7 cmL l) :
    Calls Try.prog 56 #[.slice A l.length c, .int .u8 (k : Int)] w fun e w' => e = .returned (.int .i64 (findI l k)) ∧ Below w.heap.size w w' := by
  obtain ⟨res, hres⟩ : ∃ r, r = findI l k := ⟨_, rfl⟩
  rw [← hres]
  have HR := Lib.hid hres
  clear hres
  go_enter Try.func56, Try.ntmps56
  go_wp2_with fail
  go_loopg [5] l.length (fun gk vi wr => ∃ i : Nat, i + gk = l.length ∧ vi = .int .i64 (i : Int) ∧ Hid (∀ j, j < i → ∀ c : Cm, l[j]? = some c → c.client ≠ k) ∧ Below w.heap.size w wr)
  case atStart => exact ⟨0, by omega, rfl, (fun j hj => by omega), Below.refl _ _⟩
  case round =>
    obtain ⟨i, hk, rfl, hT, bw⟩ := hrel
    by_cases h4 : i < l.length
    · have hk4 : (i : Int) < (l.length : Int) := by omega
      obtain ⟨x, hx⟩ : ∃ x, l[i]? = some x := ⟨_, List.getElem?_eq_getElem h4⟩
      obtain ⟨ad, rfl, hadl, a0, a1⟩ := hA.at_ hx
      have q0 := (bw.cell (by show (ad.add (i * 7)).block < _; rw [block_of_add]; exact hadl)).trans (a0 _ rfl)
      have HX := Lib.hid hx
      clear a0 a1 hx
      by_cases hq : x.client = k
      · have hf : res = (i : Int) := by
          rw [HR.out]
          unfold findI
          rw [find_is HX.out hq hT.out]
        subst hf
        have hq2 : ((x.client : Int) == (k : Int)) = true := by rw [hq]; simp
        clear HR hT hq
        go_wp2_with fail
        go_ret
        exact ⟨rfl, bw⟩
      · have HT2 : Hid (∀ j, j < i + 1 → ∀ c : Cm, l[j]? = some c → c.client ≠ k) := fun j hj c hc => by
          rcases Nat.lt_or_ge j i with h | h
          · exact hT.out j h c hc
          · obtain rfl : j = i := by omega
            rw [HX.out] at hc
            cases hc
            exact hq
        have hq2 : ((x.client : Int) == (k : Int)) = false := beq_eq_false_iff_ne.2 (by omega)
        clear HR hT hq
        go_wp2_with fail
        go_roundg (l.length - (i + 1))
        case measure => omega
        case rel => exact ⟨i + 1, by omega, by go_num, HT2, bw⟩
    · have hk4 : ¬ (i : Int) < (l.length : Int) := by omega
      have hf : res = -1 := by
        rw [HR.out]
        unfold findI
        rw [find_isnone (fun j c hc => hT.out j (by have := (List.getElem?_eq_some_iff.1 hc).1; omega) c hc)]
      subst hf
      go_wp2_with fail
      go_ret
      exact ⟨rfl, bw⟩
set_option linter.unusedSimpArgs false in
set_option maxRecDepth 100000 in
set_option maxHeartbeats 4000000 in
theorem without_any (l : List Cm) (i n : Nat) (hn : n = l.length) (hi : i < n) (hl : n ≤ 100000) (A : Option Addr) (c : Nat) (hc : n ≤ c) (w : World) (hA : Rows w A 7 cmL l) :
    Calls Try.prog 57 #[.slice A n c, .int .i64 (i : Int)] w fun e w' => ∃ u, e = .returned u ∧ w'.ownsRow w.heap.size 36 7 u (l.eraseIdx i).length ((l.eraseIdx i).flatMap cmL) ∧ Below w.heap.size w w' := by
  have hn1 : (l.take i).length = i := by rw [List.length_take]; omega
  have hn2 : (l.drop (i + 1)).length = n - (i + 1) := by rw [List.length_drop, hn]
  obtain ⟨v1, w1, happ1, ho1, hg1, _⟩ := app_any (w := w.drew) (base := w.heap.size) (l := []) (m := l.take i) (Nat.le_refl _) (World.ownsRow_nil _ _ _ _) (A := A) (c := c) (rows_take hA i) (by simp; omega) 30
  have b1 : Below w.heap.size w w1 := (below_drewN (Below.refl _ w) 1).grown hg1 (Nat.le_refl _) (fun k hk => by cases hk)
  have hr1 := (rows_drop hA (n := i + 1) (by omega) (hn ▸ hc)).below b1
  rw [hn1] at happ1
  obtain ⟨v2, w2, happ2, ho2, hg2, _⟩ := app_any (base := w.heap.size) b1.size ho1 hr1 (c := c - (i + 1)) (by rw [hn2]; simp; omega) 30
  rw [hn2] at happ2
  have b2 : Below w.heap.size w w2 := b1.grown hg2 b1.size (fun k hk => (ho1.lt k hk).1)
  rw [List.nil_append, ← List.eraseIdx_eq_take_drop_succ] at ho2
  have h1 : ∀ W, (Instr.slice 30 (.slice A n c) none (some (.int .i64 (i : Int))) none).run Try.prog W = .ok (.slice A i c) W := fun W => sl_to _ n c i (by omega) W
  have h2 : ∀ W, (Instr.slice 30 (.slice A n c) (some (.int .i64 ((i : Int) + 1))) none none).run Try.prog W = .ok (.slice (cutA A (i + 1) c) (n - (i + 1)) (c - (i + 1))) W := fun W => by
    rw [show ((i : Int) + 1) = ((i + 1 : Nat) : Int) by omega, sl_from _ n c (i + 1) (by omega) hc W]
  have HO := Lib.hid ho2
  have HB := Lib.hid b2
  have hwi : IntKind.i64.wrap ((i : Int) + 1) = (i : Int) + 1 := by rw [IntKind.wrap_i64]; omega
  clear ho1 ho2 b1 b2 hg1 hg2 hr1 hA hn1 hn2 hn
  go_enter Try.func57, Try.ntmps57
  go_upto_region 1 with fail
  refine wp_region_held_drew (S := (fun _ : World => True)) (by kernel_rfl) (trivial) (fun hHeld => ?_)
  refine take1 (i := 0) (d := 5) (v := ?_) rfl (by kernel_rfl) (by kernel_rfl) (by kernel_rfl) rfl (fun _ _ _ h => h) (Or.inl ⟨by rfl, ?_⟩) (by assumption) ?_
  rotate_left
  · (intro w hSw; (try dsimp only at hSw); go_simp); with_reducible rfl
  simp only [List.set_cons_zero, List.set_cons_succ]
  refine take1 (i := 1) (d := 6) (v := ?_) rfl (by kernel_rfl) (by kernel_rfl) (by kernel_rfl) rfl (fun _ _ _ h => h) (Or.inl ⟨by rfl, ?_⟩) (by assumption) ?_
  rotate_left
  · (intro w hSw; (try dsimp only at hSw); go_simp); with_reducible rfl
  simp only [List.set_cons_zero, List.set_cons_succ]
  refine take1 (i := 2) (d := 7) (v := ?_) rfl (by kernel_rfl) (by kernel_rfl) (by kernel_rfl) rfl (fun _ _ _ h => h) (Or.inl ⟨by rfl, ?_⟩) (by assumption) ?_
  rotate_left
  · intro w hSw; refine (exec_slice (t := 30) (x := .tmp 5) (lo := none) (hi := some (.tmp 6)) (mx := none) (by rfl) ht_ts (by rfl) (by rfl) (by rfl) (by rfl) (h1 w)).trans ?_; with_reducible rfl
  simp only [List.set_cons_zero, List.set_cons_succ]
  refine take1 (i := 4) (d := 9) (v := ?_) rfl (by kernel_rfl) (by kernel_rfl) (by kernel_rfl) rfl (fun _ _ _ h => h) (Or.inl ⟨by rfl, ?_⟩) (by assumption) ?_
  rotate_left
  · (intro w hSw; (try dsimp only at hSw); go_simp); with_reducible rfl
  simp only [List.set_cons_zero, List.set_cons_succ]
  refine take1 (i := 5) (d := 10) (v := ?_) rfl (by kernel_rfl) (by kernel_rfl) (by kernel_rfl) rfl (fun _ _ _ h => h) (Or.inl ⟨by rfl, ?_⟩) (by assumption) ?_
  rotate_left
  · (intro w hSw; (try dsimp only at hSw); go_simp); with_reducible rfl
  simp only [List.set_cons_zero, List.set_cons_succ]
  refine take1 (i := 6) (d := 11) (v := ?_) rfl (by kernel_rfl) (by kernel_rfl) (by kernel_rfl) rfl (fun _ _ _ h => h) (Or.inl ⟨by rfl, ?_⟩) (by assumption) ?_
  rotate_left
  · (intro w hSw; (try dsimp only at hSw); go_simp); with_reducible rfl
  simp only [List.set_cons_zero, List.set_cons_succ]
  refine take1 (i := 7) (d := 12) (v := ?_) rfl (by kernel_rfl) (by kernel_rfl) (by kernel_rfl) rfl (fun _ _ _ h => h) (Or.inl ⟨by rfl, ?_⟩) (by assumption) ?_
  rotate_left
  · intro w hSw; refine (exec_slice (t := 30) (x := .tmp 9) (lo := some (.tmp 11)) (hi := none) (mx := none) (by rfl) ht_ts (by rfl) (by rfl) (by rfl) (by rfl) (h2 w)).trans ?_; with_reducible rfl
  simp only [List.set_cons_zero, List.set_cons_succ]
  refine wpAnyH_ready (rs := [3]) (by kernel_rfl) (by simp) (AllReadyH.cons rfl (fun Kreg hKreg => ?_) AllReadyH.nil)
  refine step_run_append (by rfl) (.const (.slice none 0 0)) (.tmp 7) 30 (by rfl) (by rfl) (by rfl) happ1 ?_
  refine hKreg.out _ _ (trivial) (fun hHeld => ?_)
  clear hKreg Kreg
  refine wpAnyH_put (d := 8) (by rfl) ?_
  simp only [List.set_cons_zero, List.set_cons_succ]
  refine wpAnyH_ready (rs := [8]) (by kernel_rfl) (by simp) (AllReadyH.cons rfl (fun Kreg hKreg => ?_) AllReadyH.nil)
  refine step_run_append (by rfl) (.tmp 8) (.tmp 12) 30 (by rfl) (by rfl) (by rfl) happ2 ?_
  refine hKreg.out _ _ (trivial) (fun hHeld => ?_)
  clear hKreg Kreg
  refine wpAnyH_put (d := 13) (by rfl) ?_
  simp only [List.set_cons_zero, List.set_cons_succ]
  refine take1 (i := 9) (d := 4) (v := ?_) rfl (by kernel_rfl) (by kernel_rfl) (by kernel_rfl) rfl (fun _ _ _ h => h) (Or.inl ⟨by rfl, ?_⟩) (by assumption) ?_
  rotate_left
  · (intro w hSw; (try dsimp only at hSw); go_simp); with_reducible rfl
  simp only [List.set_cons_zero, List.set_cons_succ]
  refine wpAnyH_done (by kernel_rfl) ?_ _
  go_wp2_with fail
  go_ret
  exact ⟨_, rfl, HO.out, HB.out⟩
/-- A list that a reference hands back: where it lies, and that it is the one that was handed in, or a new one. -/
def RefL (w : World) (A : Option Addr) (m : List Cm) (u : Value) (l : List Cm) (w' : World) : Prop :=
  ∃ A' c', u = .slice A' l.length c' ∧ l.length ≤ c' ∧ Rows w' A' 7 cmL l ∧ ((A' = A ∧ l = m) ∨ ∀ ad, A' = some ad → w.heap.size ≤ ad.block)
theorem refL_own {w w' : World} {A : Option Addr} {u : Value} {m l : List Cm} (h : w'.ownsRow w.heap.size 36 7 u l.length (l.flatMap cmL)) : RefL w A m u l w' := by
  obtain ⟨A', c', hu, hc, hr, hb⟩ := own_rows_at cmL_len (by omega) h
  exact ⟨A', c', hu, hc, hr, .inr hb⟩
theorem refL_below {w w0 w' : World} {A : Option Addr} {u : Value} {m l : List Cm} (h : RefL w0 A m u l w') (hb : Below w.heap.size w w0) : RefL w A m u l w' := by
  obtain ⟨A', c', hu, hc, hr, h⟩ := h
  exact ⟨A', c', hu, hc, hr, h.imp id (fun h ad e => Nat.le_trans hb.size (h ad e))⟩
set_option linter.unusedSimpArgs false in
set_option maxRecDepth 100000 in
set_option maxHeartbeats 4000000 in
theorem refDone_any (l : List Cm) (hl : l.length ≤ 100000) (k s : Nat) (A : Option Addr) (c : Nat) (hc : l.length ≤ c) (w : World) (hA : Rows w A 7 cmL l) :
    Calls Try.prog 35 #[.slice A l.length c, .int .u8 (k : Int), .int .u32 (s : Int)] w fun e w' => ∃ u, e = .returned u ∧ RefL w A l u (doneQ l k s) w' ∧ Below w.heap.size w w' := by
  have HF := Lib.hid (refFind_any l (by omega) A c k w hA)
  obtain ⟨res, hres⟩ : ∃ r, r = doneQ l k s := ⟨_, rfl⟩
  rw [← hres]
  have HR := Lib.hid hres
  clear hres
  go_enter Try.func35, Try.ntmps35
  go_wp2_with fail
  refine HF.out.mono ?_; rintro e w2 ⟨rfl, B2⟩
  clear HF
  cases hfn : findN l k with
  | none =>
    rw [findI_none hfn]
    have hd : res = l := by rw [HR.out]; unfold doneQ; rw [hfn]
    subst hd
    have HQ : Hid (RefL w A res (.slice A res.length c) res w2) := ⟨A, c, rfl, hc, hA.below B2, .inl ⟨rfl, rfl⟩⟩
    clear hfn HR hA
    go_wp2_with fail
    go_ret
    exact ⟨_, rfl, HQ.out, B2⟩
  | some i =>
    rw [findI_some hfn]
    have hil := find_lt hfn
    obtain ⟨x, hx, _⟩ := find_at hfn
    have hd : res = if x.seq ≤ s then l.eraseIdx i else l := by rw [HR.out]; unfold doneQ; rw [hfn]; simp only [hx]
    obtain ⟨ad, rfl, hadl, _, z1⟩ := hA.at_ hx
    have c1 : w2.cell? { block := (ad.add (i * 7)).block, off := (ad.add (i * 7)).off + 1 } = some (.int .u32 (x.seq : Int)) := (B2.cell (by show (ad.add (i * 7)).block < _; rw [block_of_add]; exact hadl)).trans (z1 0 _ rfl)
    have hni : (i : Int) < (l.length : Int) := by omega
    have hi0 : 0 ≤ (i : Int) := by omega
    have HW := Lib.hid (fun W h => without_any l i l.length rfl hil hl (some ad) c hc W h)
    have hA2 := hA.below B2
    have HI := Lib.hid hil
    clear hfn HR z1 hA hx hil
    generalize x.seq = xq at *
    by_cases hq : xq ≤ s
    · rw [if_pos hq] at hd
      subst hd
      have hq2 : (xq : Int) ≤ (s : Int) := by omega
      clear hq
      go_wp2_with fail
      refine (HW.out w2 hA2).mono ?_; rintro e w3 ⟨u, rfl, ho, B3⟩
      have HQ : Hid (RefL w (some ad) l u (l.eraseIdx i) w3) := refL_below (refL_own ho) B2
      have bz := B2.trans (B3.mono B2.size)
      clear HW ho c1
      go_wp2_with fail
      go_ret
      exact ⟨_, rfl, HQ.out, bz⟩
    · rw [if_neg hq] at hd
      subst hd
      have hq2 : ¬ (xq : Int) ≤ (s : Int) := by omega
      have HQ : Hid (RefL w (some ad) res (.slice (some ad) res.length c) res w2) := ⟨some ad, c, rfl, hc, hA2, .inl ⟨rfl, rfl⟩⟩
      clear hq HW
      go_wp2_with fail
      go_ret
      exact ⟨_, rfl, HQ.out, B2⟩
theorem takeN_le (l : List Cm) (m : Int) : takeN l m ≤ l.length := by unfold takeN; split <;> omega
set_option linter.unusedSimpArgs false in
set_option maxRecDepth 100000 in
set_option maxHeartbeats 4000000 in
theorem refTake_any (l : List Cm) (ln : Nat) (hln : ln = l.length) (hl : ln ≤ 100000) (m : Int) (A : Option Addr) (c : Nat) (hc : ln ≤ c) (w : World) :
    Calls Try.prog 32 #[.slice A ln c, .int .i64 m] w fun e w' => e = .returned (.tuple #[.slice A (takeN l m) c, .slice (cutA A (takeN l m) c) (ln - takeN l m) (c - takeN l m)]) ∧ Below w.heap.size w w' := by
  obtain ⟨n, hn⟩ : ∃ n, n = takeN l m := ⟨_, rfl⟩
  rw [← hn]
  have hn1 : n ≤ ln := by rw [hn, hln]; exact takeN_le l m
  have hn2 : n < ln → ¬ (n : Int) < m := fun h => by
    rw [hn] at h ⊢
    unfold takeN at h ⊢
    split at h <;> rename_i h0
    · rw [if_pos h0]; omega
    · rw [if_neg h0]; omega
  have hn3 : ∀ j, j < n → (j : Int) < m := fun j h => by
    rw [hn] at h
    unfold takeN at h
    split at h <;> rename_i h0
    · omega
    · omega
  have HN2 := Lib.hid hn2
  have HN3 := Lib.hid hn3
  have h1 : ∀ W, (Instr.slice 30 (.slice A ln c) none (some (.int .i64 (n : Int))) none).run Try.prog W = .ok (.slice A n c) W := fun W => sl_to _ ln c n (by omega) W
  have h2 : ∀ W, (Instr.slice 30 (.slice A ln c) (some (.int .i64 (n : Int))) none none).run Try.prog W = .ok (.slice (cutA A n c) (ln - n) (c - n)) W := fun W => sl_from _ ln c n hn1 hc W
  clear hn hln hn2 hn3
  go_enter Try.func32, Try.ntmps32
  go_wp2_with fail
  go_loopg [6] n (fun gk vi wr => ∃ i : Nat, i + gk = n ∧ vi = .int .i64 (i : Int) ∧ Below w.heap.size w wr)
  case atStart => exact ⟨0, by omega, rfl, Below.refl _ _⟩
  case round =>
    obtain ⟨i, hk, rfl, bw⟩ := hrel
    by_cases h4 : i < n
    · have q1 := HN3.out i h4
      have q2 : (i : Int) < (ln : Int) := by omega
      go_wp2_with fail
      go_roundg (n - (i + 1))
      case measure => omega
      case rel => exact ⟨i + 1, by omega, by go_num, bw⟩
    · obtain rfl : i = n := by omega
      by_cases h5 : i < ln
      · by_cases q1 : (i : Int) < m
        · exfalso; have := HN2.out h5; omega
        have q2 : (i : Int) < (ln : Int) := by omega
        go_upto_region 4 with fail
        refine wp_region_held_drew (S := (fun _ : World => True)) (by kernel_rfl) (trivial) (fun hHeld => ?_)
        refine take1 (i := 0) (d := 18) (v := ?_) rfl (by kernel_rfl) (by kernel_rfl) (by kernel_rfl) rfl (fun _ _ _ h => h) (Or.inl ⟨by rfl, ?_⟩) (by assumption) ?_
        rotate_left
        · (intro w hSw; (try dsimp only at hSw); go_simp); with_reducible rfl
        simp only [List.set_cons_zero, List.set_cons_succ]
        refine take1 (i := 1) (d := 19) (v := ?_) rfl (by kernel_rfl) (by kernel_rfl) (by kernel_rfl) rfl (fun _ _ _ h => h) (Or.inl ⟨by rfl, ?_⟩) (by assumption) ?_
        rotate_left
        · (intro w hSw; (try dsimp only at hSw); go_simp); with_reducible rfl
        simp only [List.set_cons_zero, List.set_cons_succ]
        refine take1 (i := 2) (d := 20) (v := ?_) rfl (by kernel_rfl) (by kernel_rfl) (by kernel_rfl) rfl (fun _ _ _ h => h) (Or.inl ⟨by rfl, ?_⟩) (by assumption) ?_
        rotate_left
        · intro w hSw; refine (exec_slice (t := 30) (x := .tmp 18) (lo := none) (hi := some (.tmp 19)) (mx := none) (by rfl) ht_ts (by rfl) (by rfl) (by rfl) (by rfl) (h1 w)).trans ?_; with_reducible rfl
        simp only [List.set_cons_zero, List.set_cons_succ]
        refine take1 (i := 3) (d := 21) (v := ?_) rfl (by kernel_rfl) (by kernel_rfl) (by kernel_rfl) rfl (fun _ _ _ h => h) (Or.inl ⟨by rfl, ?_⟩) (by assumption) ?_
        rotate_left
        · (intro w hSw; (try dsimp only at hSw); go_simp); with_reducible rfl
        simp only [List.set_cons_zero, List.set_cons_succ]
        refine take1 (i := 4) (d := 22) (v := ?_) rfl (by kernel_rfl) (by kernel_rfl) (by kernel_rfl) rfl (fun _ _ _ h => h) (Or.inl ⟨by rfl, ?_⟩) (by assumption) ?_
        rotate_left
        · (intro w hSw; (try dsimp only at hSw); go_simp); with_reducible rfl
        simp only [List.set_cons_zero, List.set_cons_succ]
        refine take1 (i := 5) (d := 23) (v := ?_) rfl (by kernel_rfl) (by kernel_rfl) (by kernel_rfl) rfl (fun _ _ _ h => h) (Or.inl ⟨by rfl, ?_⟩) (by assumption) ?_
        rotate_left
        · intro w hSw; refine (exec_slice (t := 30) (x := .tmp 21) (lo := some (.tmp 22)) (hi := none) (mx := none) (by rfl) ht_ts (by rfl) (by rfl) (by rfl) (by rfl) (h2 w)).trans ?_; with_reducible rfl
        simp only [List.set_cons_zero, List.set_cons_succ]
        refine take1 (i := 6) (d := 4) (v := ?_) rfl (by kernel_rfl) (by kernel_rfl) (by kernel_rfl) rfl (fun _ _ _ h => h) (Or.inl ⟨by rfl, ?_⟩) (by assumption) ?_
        rotate_left
        · (intro w hSw; (try dsimp only at hSw); go_simp); with_reducible rfl
        simp only [List.set_cons_zero, List.set_cons_succ]
        refine take1 (i := 7) (d := 5) (v := ?_) rfl (by kernel_rfl) (by kernel_rfl) (by kernel_rfl) rfl (fun _ _ _ h => h) (Or.inl ⟨by rfl, ?_⟩) (by assumption) ?_
        rotate_left
        · (intro w hSw; (try dsimp only at hSw); go_simp); with_reducible rfl
        simp only [List.set_cons_zero, List.set_cons_succ]
        refine wpAnyH_done (by kernel_rfl) ?_ _
        go_wp2_with fail
        exact bodyPost_ret (v := .tuple #[.slice A i c, .slice (cutA A i c) (ln - i) (c - i)]) (by simp [results, Try.results32]) rfl ⟨rfl, bw.drew⟩
      · have q2 : ¬ (i : Int) < (ln : Int) := by omega
        obtain rfl : i = ln := by omega
        by_cases q1 : (i : Int) < m
        · go_upto_region 4 with fail
          refine wp_region_held_drew (S := (fun _ : World => True)) (by kernel_rfl) (trivial) (fun hHeld => ?_)
          refine take1 (i := 0) (d := 18) (v := ?_) rfl (by kernel_rfl) (by kernel_rfl) (by kernel_rfl) rfl (fun _ _ _ h => h) (Or.inl ⟨by rfl, ?_⟩) (by assumption) ?_
          rotate_left
          · (intro w hSw; (try dsimp only at hSw); go_simp); with_reducible rfl
          simp only [List.set_cons_zero, List.set_cons_succ]
          refine take1 (i := 1) (d := 19) (v := ?_) rfl (by kernel_rfl) (by kernel_rfl) (by kernel_rfl) rfl (fun _ _ _ h => h) (Or.inl ⟨by rfl, ?_⟩) (by assumption) ?_
          rotate_left
          · (intro w hSw; (try dsimp only at hSw); go_simp); with_reducible rfl
          simp only [List.set_cons_zero, List.set_cons_succ]
          refine take1 (i := 2) (d := 20) (v := ?_) rfl (by kernel_rfl) (by kernel_rfl) (by kernel_rfl) rfl (fun _ _ _ h => h) (Or.inl ⟨by rfl, ?_⟩) (by assumption) ?_
          rotate_left
          · intro w hSw; refine (exec_slice (t := 30) (x := .tmp 18) (lo := none) (hi := some (.tmp 19)) (mx := none) (by rfl) ht_ts (by rfl) (by rfl) (by rfl) (by rfl) (h1 w)).trans ?_; with_reducible rfl
          simp only [List.set_cons_zero, List.set_cons_succ]
          refine take1 (i := 3) (d := 21) (v := ?_) rfl (by kernel_rfl) (by kernel_rfl) (by kernel_rfl) rfl (fun _ _ _ h => h) (Or.inl ⟨by rfl, ?_⟩) (by assumption) ?_
          rotate_left
          · (intro w hSw; (try dsimp only at hSw); go_simp); with_reducible rfl
          simp only [List.set_cons_zero, List.set_cons_succ]
          refine take1 (i := 4) (d := 22) (v := ?_) rfl (by kernel_rfl) (by kernel_rfl) (by kernel_rfl) rfl (fun _ _ _ h => h) (Or.inl ⟨by rfl, ?_⟩) (by assumption) ?_
          rotate_left
          · (intro w hSw; (try dsimp only at hSw); go_simp); with_reducible rfl
          simp only [List.set_cons_zero, List.set_cons_succ]
          refine take1 (i := 5) (d := 23) (v := ?_) rfl (by kernel_rfl) (by kernel_rfl) (by kernel_rfl) rfl (fun _ _ _ h => h) (Or.inl ⟨by rfl, ?_⟩) (by assumption) ?_
          rotate_left
          · intro w hSw; refine (exec_slice (t := 30) (x := .tmp 21) (lo := some (.tmp 22)) (hi := none) (mx := none) (by rfl) ht_ts (by rfl) (by rfl) (by rfl) (by rfl) (h2 w)).trans ?_; with_reducible rfl
          simp only [List.set_cons_zero, List.set_cons_succ]
          refine take1 (i := 6) (d := 4) (v := ?_) rfl (by kernel_rfl) (by kernel_rfl) (by kernel_rfl) rfl (fun _ _ _ h => h) (Or.inl ⟨by rfl, ?_⟩) (by assumption) ?_
          rotate_left
          · (intro w hSw; (try dsimp only at hSw); go_simp); with_reducible rfl
          simp only [List.set_cons_zero, List.set_cons_succ]
          refine take1 (i := 7) (d := 5) (v := ?_) rfl (by kernel_rfl) (by kernel_rfl) (by kernel_rfl) rfl (fun _ _ _ h => h) (Or.inl ⟨by rfl, ?_⟩) (by assumption) ?_
          rotate_left
          · (intro w hSw; (try dsimp only at hSw); go_simp); with_reducible rfl
          simp only [List.set_cons_zero, List.set_cons_succ]
          refine wpAnyH_done (by kernel_rfl) ?_ _
          go_wp2_with fail
          exact bodyPost_ret (v := .tuple #[.slice A i c, .slice (cutA A i c) (i - i) (c - i)]) (by simp [results, Try.results32]) rfl ⟨by simp, bw.drew⟩
        · go_upto_region 4 with fail
          refine wp_region_held_drew (S := (fun _ : World => True)) (by kernel_rfl) (trivial) (fun hHeld => ?_)
          refine take1 (i := 0) (d := 18) (v := ?_) rfl (by kernel_rfl) (by kernel_rfl) (by kernel_rfl) rfl (fun _ _ _ h => h) (Or.inl ⟨by rfl, ?_⟩) (by assumption) ?_
          rotate_left
          · (intro w hSw; (try dsimp only at hSw); go_simp); with_reducible rfl
          simp only [List.set_cons_zero, List.set_cons_succ]
          refine take1 (i := 1) (d := 19) (v := ?_) rfl (by kernel_rfl) (by kernel_rfl) (by kernel_rfl) rfl (fun _ _ _ h => h) (Or.inl ⟨by rfl, ?_⟩) (by assumption) ?_
          rotate_left
          · (intro w hSw; (try dsimp only at hSw); go_simp); with_reducible rfl
          simp only [List.set_cons_zero, List.set_cons_succ]
          refine take1 (i := 2) (d := 20) (v := ?_) rfl (by kernel_rfl) (by kernel_rfl) (by kernel_rfl) rfl (fun _ _ _ h => h) (Or.inl ⟨by rfl, ?_⟩) (by assumption) ?_
          rotate_left
          · intro w hSw; refine (exec_slice (t := 30) (x := .tmp 18) (lo := none) (hi := some (.tmp 19)) (mx := none) (by rfl) ht_ts (by rfl) (by rfl) (by rfl) (by rfl) (h1 w)).trans ?_; with_reducible rfl
          simp only [List.set_cons_zero, List.set_cons_succ]
          refine take1 (i := 3) (d := 21) (v := ?_) rfl (by kernel_rfl) (by kernel_rfl) (by kernel_rfl) rfl (fun _ _ _ h => h) (Or.inl ⟨by rfl, ?_⟩) (by assumption) ?_
          rotate_left
          · (intro w hSw; (try dsimp only at hSw); go_simp); with_reducible rfl
          simp only [List.set_cons_zero, List.set_cons_succ]
          refine take1 (i := 4) (d := 22) (v := ?_) rfl (by kernel_rfl) (by kernel_rfl) (by kernel_rfl) rfl (fun _ _ _ h => h) (Or.inl ⟨by rfl, ?_⟩) (by assumption) ?_
          rotate_left
          · (intro w hSw; (try dsimp only at hSw); go_simp); with_reducible rfl
          simp only [List.set_cons_zero, List.set_cons_succ]
          refine take1 (i := 5) (d := 23) (v := ?_) rfl (by kernel_rfl) (by kernel_rfl) (by kernel_rfl) rfl (fun _ _ _ h => h) (Or.inl ⟨by rfl, ?_⟩) (by assumption) ?_
          rotate_left
          · intro w hSw; refine (exec_slice (t := 30) (x := .tmp 21) (lo := some (.tmp 22)) (hi := none) (mx := none) (by rfl) ht_ts (by rfl) (by rfl) (by rfl) (by rfl) (h2 w)).trans ?_; with_reducible rfl
          simp only [List.set_cons_zero, List.set_cons_succ]
          refine take1 (i := 6) (d := 4) (v := ?_) rfl (by kernel_rfl) (by kernel_rfl) (by kernel_rfl) rfl (fun _ _ _ h => h) (Or.inl ⟨by rfl, ?_⟩) (by assumption) ?_
          rotate_left
          · (intro w hSw; (try dsimp only at hSw); go_simp); with_reducible rfl
          simp only [List.set_cons_zero, List.set_cons_succ]
          refine take1 (i := 7) (d := 5) (v := ?_) rfl (by kernel_rfl) (by kernel_rfl) (by kernel_rfl) rfl (fun _ _ _ h => h) (Or.inl ⟨by rfl, ?_⟩) (by assumption) ?_
          rotate_left
          · (intro w hSw; (try dsimp only at hSw); go_simp); with_reducible rfl
          simp only [List.set_cons_zero, List.set_cons_succ]
          refine wpAnyH_done (by kernel_rfl) ?_ _
          go_wp2_with fail
          exact bodyPost_ret (v := .tuple #[.slice A i c, .slice (cutA A i c) (i - i) (c - i)]) (by simp [results, Try.results32]) rfl ⟨by simp, bw.drew⟩
end Go.Proofs.Ytgpdggojajjppaa.Bat
