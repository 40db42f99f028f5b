/- The methods of a queue of commands, walked. Conditions: the queue lies in memory of its own. -/
import Derived.Test.YtgpdggojajjppaaBatW
import Derived.Deep.Onto
namespace Go.Proofs.Ytgpdggojajjppaa.Bat
open Go.RowKit Wire Cmd DrawInv

theorem size_cm : (Try.prog.info? 36).map (·.size) = some 7 := by kernel_rfl
/-- Commands that lie at the head of a block. -/
def Lies (w : World) (B : Nat) (u : Value) (l : List Cm) : Prop :=
  (u = .slice none 0 0 ∧ l = []) ∨ ∃ r c cur, u = .slice (some ⟨r, 0, none⟩) l.length c ∧ B ≤ r ∧ Blk w r 36 cur ∧ l.length * 7 ≤ cur.size ∧ cur.toList.take (l.length * 7) = l.flatMap cmL
theorem Lies.of_own {w : World} {B : Nat} {v : Value} {l : List Cm} (h : w.ownsRow B 36 7 v l.length (l.flatMap cmL)) : Lies w B v l := by
  rcases h.2 with ⟨h0, h1⟩ | ⟨g, cap, cur, hv, hb, hg, hn, hm, hs, ht⟩
  · exact .inl ⟨h0, List.eq_nil_of_length_eq_zero h1⟩
  · exact .inr ⟨g, cap, cur, hv, hb, hg, by rw [hs]; omega, ht⟩
theorem Lies.rows {w : World} {B : Nat} {u : Value} {l : List Cm} (h : Lies w B u l) : ∃ A c, u = .slice A l.length c ∧ Rows w A 7 cmL l ∧ (l = [] ∨ A.isSome = true) := by
  rcases h with ⟨rfl, rfl⟩ | ⟨r, c, cur, rfl, _, hk, hs, ht⟩
  · exact ⟨none, 0, rfl, Rows.nil _ _ _ _, .inl rfl⟩
  · refine ⟨_, c, rfl, reads_rows cmL_len ⟨flat_length cmL_len l, fun _ => ⟨_, rfl, hk.lt, fun j u hu => ?_⟩⟩, .inr rfl⟩
    have e : (⟨r, 0, none⟩ : Addr).add j = ⟨r, j, none⟩ := by unfold Addr.add; by_cases h : j = 0 <;> simp [h]
    rw [e, hk.cell j]
    rw [← ht, List.getElem?_take] at hu
    split at hu
    · rw [← Array.getElem?_toList]; exact hu
    · cases hu
/-- What becomes of the world behind a method: the queue's block turns, and its row; the rest stays. -/
def QGo (w : World) (B g : Nat) (v : Value) (l' : List Cm) (w' : World) : Prop :=
  ∃ v', Blk w' g 105 #[v'] ∧ w'.ownsRow B 36 7 v' l'.length (l'.flatMap cmL) ∧ Outs (g :: v.ownBlock.toList) w w' ∧ (∀ r, v'.ownBlock = some r → v.ownBlock = some r ∨ w.heap.size ≤ r)
theorem QGo.keep {w w' : World} {B g : Nat} {v : Value} {l : List Cm} (hg : Blk w g 105 #[v]) (ho : w.ownsRow B 36 7 v l.length (l.flatMap cmL)) (hB : Below w.heap.size w w') : QGo w B g v l w' :=
  ⟨v, hg.below hB hg.lt, own_below ho hB (fun g h => (ho.lt g h).2), Outs.of_below hB, fun _ h => .inl h⟩
set_option maxRecDepth 100000 in
theorem all_nil (w : World) : Calls Try.prog 38 #[.pointer none] w fun e w' => e = .returned (.slice none 0 0) ∧ w = w' := by
  go_enter Try.func38, Try.ntmps38
  go_wp2_with fail
  go_ret
  exact ⟨rfl, rfl⟩
theorem take_nil (m : Int) (w : World) : Calls Try.prog 31 #[.pointer none, .int .i64 m] w fun e w' => e = .returned (.slice none 0 0) ∧ w = w' := by
  go_enter Try.func31, Try.ntmps31
  go_wp2_with fail
  go_ret
  exact ⟨rfl, rfl⟩
theorem done_nil (k s : Nat) (w : World) : Calls Try.prog 34 #[.pointer none, .int .u8 (k : Int), .int .u32 (s : Int)] w fun e w' => (∃ u, e = .returned u) ∧ w = w' := by
  go_enter Try.func34, Try.ntmps34
  go_wp2_with fail
  exact bodyPost_ret (v := .tuple #[]) (by simp [results, Try.results34]) rfl ⟨⟨_, rfl⟩, rfl⟩
theorem put_nil (c : Cm) (w : World) : Calls Try.prog 37 #[.pointer none, cmV c] w fun e w' => e = .returned (.int .i64 1) ∧ Below w.heap.size w w' := by
  have bw : Below w.heap.size w (w.alloc (.cells (cmC c) 36)) := (Below.refl _ w).alloc (Nat.le_refl _) _
  obtain ⟨xa, xb, xk, xs, xt, xu, xz⟩ := c
  unfold cmV
  unfold cmC at *
  dsimp only at *
  go_enter Try.func37, Try.ntmps37
  go_wp2_with fail
  go_ret
  exact ⟨rfl, bw⟩
theorem new_any (w : World) : Calls Try.prog 30 #[] w fun e w' => e = .returned (.pointer (some ⟨w.heap.size, 0, none⟩)) ∧ w.alloc (.cells #[.slice none 0 0] 105) = w' := by
  go_enter Try.func30, Try.ntmps30
  go_wp2_with fail
  go_ret
  exact ⟨rfl, rfl⟩
theorem all_any (g : Nat) (l : List Cm) (hl : l.length ≤ 100000) (B : Nat) (v : Value) (w : World) (hg : Blk w g 105 #[v]) (ho : w.ownsRow B 36 7 v l.length (l.flatMap cmL)) :
    Calls Try.prog 38 #[.pointer (some ⟨g, 0, none⟩)] w fun e w' => ∃ u, e = .returned u ∧ w'.ownsRow w.heap.size 36 7 u l.length (l.flatMap cmL) ∧ Below w.heap.size w w' := by
  obtain ⟨A, c, rfl, hr, hA⟩ := (Lies.of_own ho).rows
  have g0 := hg.cell 0
  have HC := Lib.hid (clone_any l hl A c w hr hA)
  go_enter Try.func38, Try.ntmps38
  go_wp2_with fail
  refine HC.out.mono ?_; rintro e w2 ⟨u, rfl, h1, h2⟩
  have H1 := Lib.hid h1
  clear h1
  go_wp2_with fail
  go_ret
  exact ⟨u, rfl, H1.out, h2⟩
/-- A store into the queue's block. -/
theorem store_q {w : World} {g : Nat} {v : Value} (hg : Blk w g 105 #[v]) (A : Option Addr) (n c : Nat) : ∃ w', (Instr.storeAt 30 (.pointer (some ⟨g, 0, none⟩)) (.slice A n c)).run Try.prog w = .ok () w' ∧ Blk w' g 105 #[.slice A n c] ∧ w.grownBy w' (some g) := by
  have c0 := hg.cell 0
  have f0 := hg.frozen 0
  refine ⟨w.setCell ⟨g, 0, none⟩ (.slice A n c), ?_, hg.set_ 0 _, only_setCell (World.grownBy.refl w _) (p := ⟨g, 0, none⟩) (.inl rfl) _⟩
  go_simp
theorem load_q {w : World} {g : Nat} {A : Option Addr} {n c : Nat} (hg : Blk w g 105 #[.slice A n c]) : (Instr.loadAt 30 (.pointer (some ⟨g, 0, none⟩))).run Try.prog w = .ok (.slice A n c) w := by
  have c0 := hg.cell 0
  go_simp
theorem own_ne {w : World} {B g n : Nat} {v : Value} {xs : List Value} {cs : Array Value} (ho : w.ownsRow B 36 7 v n xs) (hg : Blk w g 105 cs) : v.ownBlock ≠ some g := own_blk_ne ho hg (by decide)
theorem own_slice {w : World} {B n : Nat} {v : Value} {xs : List Value} (ho : w.ownsRow B 36 7 v n xs) : ∃ A c, v = .slice A n c := by
  rcases ho.2 with ⟨h0, h1⟩ | ⟨g, cap, cur, hv, _⟩
  · exact ⟨none, 0, by rw [h0, h1]⟩
  · exact ⟨_, cap, hv⟩
set_option maxRecDepth 100000 in
set_option maxHeartbeats 4000000 in
theorem take_any (g : Nat) (l : List Cm) (hl : l.length ≤ 100000) (m : Int) (hm : m ≤ 9223372036854775807) (B : Nat) (hB : B ≤ g) (v : Value) (w : World) (hg : Blk w g 105 #[v]) (ho : w.ownsRow B 36 7 v l.length (l.flatMap cmL)) :
    Calls Try.prog 31 #[.pointer (some ⟨g, 0, none⟩), .int .i64 m] w fun e w' => ∃ u v', e = .returned u ∧ Lies w' B u (l.take (takeN l m)) ∧ (∀ r, u.ownBlock = some r → v.ownBlock = some r ∧ v'.ownBlock ≠ some r) ∧
      Blk w' g 105 #[v'] ∧ w'.ownsRow B 36 7 v' (l.drop (takeN l m)).length ((l.drop (takeN l m)).flatMap cmL) ∧ w.grownBy w' (some g) ∧ (∀ r, v'.ownBlock = some r → v.ownBlock = some r ∨ w.heap.size ≤ r) := by
  by_cases h0 : m ≤ 0
  · have e0 : takeN l m = 0 := if_pos h0
    rw [e0]
    have HO := Lib.hid ho
    have HG := Lib.hid hg
    clear ho hg
    go_enter Try.func31, Try.ntmps31
    go_wp2_with fail
    go_ret
    exact ⟨_, v, rfl, .inl ⟨rfl, rfl⟩, (fun r h => by cases h), HG.out, HO.out, World.grownBy.refl _ _, fun r h => .inl h⟩
  · have hn0 : takeN l m = min m.toNat l.length := if_neg h0
    obtain ⟨n, hn⟩ : ∃ n, takeN l m = n := ⟨_, rfl⟩
    rw [hn] at hn0 ⊢
    have hmin : min m (l.length : Int) = (n : Int) := by omega
    have hnl : n ≤ l.length := by omega
    obtain ⟨A, c, rfl⟩ := own_slice ho
    have hcap : l.length ≤ c := by
      rcases ho.2 with ⟨h, h2⟩ | ⟨g', cap, cur, hv, _, _, h, _⟩
      · omega
      · cases hv; exact h
    obtain ⟨A', c', hv, hr, hA⟩ := (Lies.of_own ho).rows
    cases hv
    have hcut : Rows w (cutA A n c) 7 cmL (l.drop n) := by
      have h := (rows_reads cmL_len (by omega) hr).cut hnl hcap
      rw [flat_drop cmL_len] at h
      refine reads_rows (l := l.drop n) cmL_len ?_
      rw [List.length_drop]
      exact h
    have hcA : l.drop n = [] ∨ (cutA A n c).isSome = true := by
      rcases hA with h | h
      · exact .inl (by rw [h]; simp)
      · refine .inr ?_
        unfold cutA
        split
        · exact h
        · simpa using h
    have HC := Lib.hid (clone_any (l.drop n) (by rw [List.length_drop]; omega) (cutA A n c) (c - n) w hcut hcA)
    rw [List.length_drop] at HC
    have s1 : (Instr.slice 30 (.slice A l.length c) none (some (.int .i64 (n : Int))) (some (.int .i64 (n : Int)))).run Try.prog w = .ok (.slice A n n) w := sl_to3 A l.length c n (by omega) w
    have s2 : (Instr.slice 30 (.slice A l.length c) (some (.int .i64 (n : Int))) none none).run Try.prog w = .ok (.slice (cutA A n c) (l.length - n) (c - n)) w := sl_from A l.length c n hnl hcap w
    have g0 := hg.cell 0
    have HO := Lib.hid ho
    have HG := Lib.hid hg
    have HN := Lib.hid hn0
    have HN2 := Lib.hid hn
    generalize hln : l.length = ln at *
    have HLN := Lib.hid hln
    clear ho hg hn0 hn hr hA hcut hcA hln
    go_enter Try.func31, Try.ntmps31
    go_wp2_with (first | refine wpList_run_slice (t := 30) (x := .tmp 23) (lo := none) (hi := some (.tmp 24)) (mx := some (.tmp 25)) (by rfl) (by rfl) ht_ts (by rfl) (by rfl) (by rfl) (by rfl) s1 ?_ | refine wpList_run_slice (t := 30) (x := .tmp 31) (lo := some (.tmp 32)) (hi := none) (mx := none) (by rfl) (by rfl) ht_ts (by rfl) (by rfl) (by rfl) (by rfl) s2 ?_)
    refine HC.out.mono ?_; rintro e w2 ⟨u, rfl, h1, h2⟩
    have hg2 := HG.out.below h2 HG.out.lt
    obtain ⟨A2, c2, rfl⟩ := own_slice h1
    obtain ⟨w3, hst, hg3, hgr3⟩ := store_q hg2 A2 (ln - n) c2
    have h3 := own_grown2 h1 hgr3 (fun r hr he => own_ne h1 hg2 (by rw [hr, he]))
    have HF := Lib.hid (And.intro h1 (And.intro h2 (And.intro hg3 (And.intro hgr3 h3))))
    clear h1 h2 hg3 hgr3 h3 hg2 HC g0 s1 s2
    go_wp2_with (refine wpList_store (by rfl) (.tmp 36) (.tmp 34) (by rfl) (by rfl) (by rfl) hst ?_)
    go_ret
    obtain ⟨h1, h2, hg3, hgr3, h3⟩ := HF.out
    have hgg : w.grownBy w3 (some g) := ⟨hgr3.os.trans h2.os, hgr3.tape.trans h2.tape, hgr3.output.trans h2.output, Nat.le_trans h2.size hgr3.size, fun k hk hne => (hgr3.block k (Nat.lt_of_lt_of_le hk h2.size) hne).trans (h2.block k hk)⟩
    refine ⟨_, _, rfl, ?_, ?_, hg3, by rw [List.length_drop, HLN.out]; exact h3.mono (by have := HG.out.lt; omega), hgg, ?_⟩
    · rcases HO.out.2 with ⟨h, h2⟩ | ⟨g', cap, cur, hv, hb, hh, _, _, hs, ht⟩
      · cases h
        obtain rfl : n = 0 := by omega
        exact .inl ⟨rfl, by simp⟩
      · cases hv
        have hlt : (l.take n).length = n := by rw [List.length_take, HLN.out]; omega
        refine .inr ⟨g', n, cur, by rw [hlt]; rfl, hb, (hgg.block g' (Blk.lt hh) (fun he => own_ne HO.out HG.out (by rw [← he]; rfl))).trans hh, by rw [hlt, hs]; omega, ?_⟩
        rw [hlt, ← flat_take cmL_len, ← ht, List.take_take, Nat.min_eq_left (by omega)]
    · intro r hr
      refine ⟨?_, fun hr2 => ?_⟩
      · cases A with
        | none => cases hr
        | some ad => exact hr
      · have h5 := h1.lt r hr2
        rcases HO.out.2 with ⟨h, _⟩ | ⟨g', cap, cur, hv, hb, hh, _⟩
        · cases h; cases hr
        · cases hv
          have hr' : g' = r := Option.some.inj hr
          have := Blk.lt hh
          omega
    · intro r hr
      exact .inr (h1.lt r hr).1
theorem findI_none {l : List Cm} {k : Nat} (h : findN l k = none) : findI l k = -1 := by unfold findI; rw [h]
theorem findI_some {l : List Cm} {k i : Nat} (h : findN l k = some i) : findI l k = (i : Int) := by unfold findI; rw [h]
/-- A queue with something in it: its row. -/
theorem own_full {w : World} {B n : Nat} {v : Value} {xs : List Value} (ho : w.ownsRow B 36 7 v n xs) (hn : 0 < n) : ∃ r c, v = .slice (some ⟨r, 0, none⟩) n c := by
  rcases ho.2 with ⟨h0, h1⟩ | ⟨g, cap, cur, hv, _⟩
  · omega
  · exact ⟨g, cap, hv⟩
theorem del_parts {w w2 w3 w4 : World} {B g n r c i : Nat} {l : List Cm} (hn : n = l.length) (hi : i < n) (hg : Blk w g 105 #[.slice (some ⟨r, 0, none⟩) n c]) (ho : w.ownsRow B 36 7 (.slice (some ⟨r, 0, none⟩) n c) n (l.flatMap cmL)) (hb : Below w.heap.size w w2)
    (ho3 : w3.ownsRow B 36 7 (.slice (some ⟨r, 0, none⟩) (n - 1) c) (n - 1) ((l.eraseIdx i).flatMap cmL)) (hg3 : w2.grownBy w3 (some r)) (hgr : w3.grownBy w4 (some g)) :
    w4.ownsRow B 36 7 (.slice (some ⟨r, 0, none⟩) (n - 1) c) (l.eraseIdx i).length ((l.eraseIdx i).flatMap cmL) ∧ Outs (g :: (Value.slice (some ⟨r, 0, none⟩) n c).ownBlock.toList) w w4 := by
  have hne : g ≠ r := fun he => own_ne ho hg (by rw [he]; rfl)
  have hlt : (l.eraseIdx i).length = n - 1 := by rw [List.length_eraseIdx, hn, if_pos (by omega)]
  refine ⟨?_, ?_⟩
  · rw [hlt]
    exact own_grown2 ho3 hgr (fun q hq he => by cases hq; cases he; exact hne rfl)
  · exact ((Outs.of_below hb).trans (Outs.of_grown hg3 (by simp [Value.ownBlock]))).trans (Outs.of_grown hgr (by simp))
/-- Behind Delete and the store of what it tells. -/
theorem del_go {w w2 w3 w4 : World} {B g n r c i : Nat} {l : List Cm} (hn : n = l.length) (hi : i < n) (hg : Blk w g 105 #[.slice (some ⟨r, 0, none⟩) n c]) (ho : w.ownsRow B 36 7 (.slice (some ⟨r, 0, none⟩) n c) n (l.flatMap cmL)) (hb : Below w.heap.size w w2)
    (ho3 : w3.ownsRow B 36 7 (.slice (some ⟨r, 0, none⟩) (n - 1) c) (n - 1) ((l.eraseIdx i).flatMap cmL)) (hg3 : w2.grownBy w3 (some r)) (hg4 : Blk w4 g 105 #[.slice (some ⟨r, 0, none⟩) (n - 1) c]) (hgr : w3.grownBy w4 (some g)) :
    QGo w B g (.slice (some ⟨r, 0, none⟩) n c) (l.eraseIdx i) w4 := by
  have hne : g ≠ r := fun he => own_ne ho hg (by rw [he]; rfl)
  have hlt : (l.eraseIdx i).length = n - 1 := by rw [List.length_eraseIdx, hn, if_pos (by omega)]
  refine ⟨_, hg4, ?_, ?_, fun _ h => .inl h⟩
  · rw [hlt]
    exact own_grown2 ho3 hgr (fun q hq he => by cases hq; cases he; exact hne rfl)
  · exact ((Outs.of_below hb).trans (Outs.of_grown hg3 (by simp [Value.ownBlock]))).trans (Outs.of_grown hgr (by simp))
set_option linter.unusedSimpArgs false in
set_option maxRecDepth 100000 in
set_option maxHeartbeats 4000000 in
theorem done_any (g : Nat) (l : List Cm) (hl : l.length ≤ 100000) (k s : Nat) (B : Nat) (v : Value) (w : World) (hg : Blk w g 105 #[v]) (ho : w.ownsRow B 36 7 v l.length (l.flatMap cmL)) :
    Calls Try.prog 34 #[.pointer (some ⟨g, 0, none⟩), .int .u8 (k : Int), .int .u32 (s : Int)] w fun e w' => (∃ u, e = .returned u) ∧ QGo w B g v (doneQ l k s) w' := by
  obtain ⟨A, c, hv, hr, _⟩ := (Lies.of_own ho).rows
  have HF := Lib.hid (find_any g l hl A c k w hr (by unfold QRow; rw [← hv]; exact hg))
  cases hfn : findN l k with
  | none =>
    have e1 : doneQ l k s = l := by unfold doneQ; rw [hfn]
    rw [findI_none hfn] at HF
    rw [e1]
    have HO := Lib.hid ho
    have HG := Lib.hid hg
    clear ho hg hr hv e1 hfn
    go_enter Try.func34, Try.ntmps34
    go_wp2_with fail
    refine HF.out.mono ?_; rintro e w2 ⟨rfl, B2⟩
    have HB2 := Lib.hid B2
    clear HF B2
    go_wp2_with fail
    exact bodyPost_end (v := .tuple #[]) (by simp [results, Try.results34]) rfl ⟨⟨_, rfl⟩, QGo.keep HG.out HO.out HB2.out⟩
  | some i =>
    rw [findI_some hfn] at HF
    have hil := find_lt hfn
    obtain ⟨r, c', hv2⟩ := own_full ho (by omega)
    subst hv2
    obtain ⟨rfl, rfl⟩ : some ⟨r, 0, none⟩ = A ∧ c' = c := by injection hv with h1 h2 h3; exact ⟨h1, h3⟩
    obtain ⟨x, hx, _⟩ := find_at hfn
    have e1 : doneQ l k s = if x.seq ≤ s then l.eraseIdx i else l := by unfold doneQ; rw [hfn]; simp only; rw [hx]
    obtain ⟨ad, had, hadl, _, z1⟩ := hr.at_ hx
    have hd : ad = ⟨r, 0, none⟩ := (Option.some.inj had).symm
    rw [e1]
    obtain ⟨l2, hl2⟩ : ∃ l2, l2 = if x.seq ≤ s then l.eraseIdx i else l := ⟨_, rfl⟩
    rw [← hl2]
    have HL2 := Lib.hid hl2
    clear hl2
    obtain ⟨n, hn⟩ : ∃ n, n = l.length := ⟨_, rfl⟩
    rw [← hn] at hl ho hg hil ⊢
    have HD : Hid (∀ W, W.ownsRow B 36 7 (.slice (some ⟨r, 0, none⟩) n c') n (l.flatMap cmL) → Calls Try.prog 55 #[.slice (some ad) n c', .int .i64 (i : Int), .int .i64 ((i : Int) + 1)] W fun e w' => e = .returned (.slice (some ⟨r, 0, none⟩) (n - 1) c') ∧
      w'.ownsRow B 36 7 (.slice (some ⟨r, 0, none⟩) (n - 1) c') (n - 1) ((l.eraseIdx i).flatMap cmL) ∧ W.grownBy w' (some r)) := fun W h => by
        rw [hd]
        exact delete_any l n c' r i B hn hil W h hl
    have HO := Lib.hid ho
    have HG := Lib.hid hg
    have HN := Lib.hid hn
    have HAD := Lib.hid hd
    have b0 : (ad.add (i * 7)).block < w.heap.size := by rw [block_of_add]; exact hadl
    have c1 := z1 0 _ rfl
    have hni : (i : Int) < (n : Int) := by omega
    have hwi : IntKind.i64.wrap ((i : Int) + 1) = (i : Int) + 1 := by rw [IntKind.wrap_i64]; omega
    have ha : Hid (#[Value.slice (some ⟨r, 0, none⟩) n c'] = #[Value.slice (some ad) n c']) := by show _ = _; rw [hd]
    clear ho hg hr hv e1 hfn hn hd had z1 hx hadl
    go_enter Try.func34, Try.ntmps34
    go_wp2_with fail
    refine HF.out.mono ?_; rintro e w2 ⟨rfl, B2⟩
    have hg2 := HG.out.below B2 HG.out.lt
    have g2 : w2.cell? ⟨g, 0, none⟩ = some (.slice (some ad) n c') := by rw [ha.out] at hg2; exact hg2.cell 0
    have c2 : w2.cell? { block := (ad.add (i * 7)).block, off := (ad.add (i * 7)).off + 1 } = _ := (B2.cell (by exact b0)).trans c1
    have HB2 := Lib.hid B2
    have HG2 := Lib.hid hg2
    clear HF B2 c1 hg2
    by_cases hs : x.seq ≤ s
    · obtain rfl : l2 = l.eraseIdx i := HL2.out.trans (if_pos hs)
      have hsi : (x.seq : Int) ≤ (s : Int) := by omega
      clear hs HL2
      go_wp2_with fail
      refine (HD.out w2 (own_below HO.out HB2.out (fun q hq => (HO.out.lt q hq).2))).mono ?_; rintro e w3 ⟨rfl, ho3, hg3⟩
      have hgr : g ≠ r := fun he => own_ne HO.out HG.out (by rw [he]; rfl)
      obtain ⟨w4, hst, hg4, hgr4⟩ := store_q (HG2.out.grown hg3 (fun he => hgr (Option.some.inj he))) (some ⟨r, 0, none⟩) (n - 1) c'
      have HQ := Lib.hid (del_go HN.out hil HG.out HO.out HB2.out ho3 hg3 hg4 hgr4)
      clear ho3 hg3 hg4 hgr4 g2 c2 HD
      go_wp2_with (refine wpList_store (by rfl) (.tmp 36) (.tmp 34) (by rfl) (by rfl) (by rfl) hst ?_)
      exact bodyPost_end (v := .tuple #[]) (by simp [results, Try.results34]) rfl ⟨⟨_, rfl⟩, HQ.out⟩
    · obtain rfl : l = l2 := (HL2.out.trans (if_neg hs)).symm
      have hsi : ¬ (x.seq : Int) ≤ (s : Int) := by omega
      have HQ : Hid (QGo w B g (.slice (some ⟨r, 0, none⟩) n c') l w2) := QGo.keep HG.out (by rw [← HN.out]; exact HO.out) HB2.out
      clear hs HD HL2
      go_wp2_with fail
      exact bodyPost_end (v := .tuple #[]) (by simp [results, Try.results34]) rfl ⟨⟨_, rfl⟩, HQ.out⟩
/-- What a queue is, behind a method: carried on by the next one. -/
theorem QGo.trans {w w2 w3 : World} {B g : Nat} {v v2 : Value} {l3 : List Cm} (h2 : Outs (g :: v.ownBlock.toList) w w2) (hf : ∀ r, v2.ownBlock = some r → v.ownBlock = some r ∨ w.heap.size ≤ r) (h3 : QGo w2 B g v2 l3 w3) : QGo w B g v l3 w3 := by
  obtain ⟨v3, h1, h4, h5, h6⟩ := h3
  refine ⟨v3, h1, h4, ⟨h5.os.trans h2.os, h5.tape.trans h2.tape, h5.output.trans h2.output, Nat.le_trans h2.size h5.size, fun k hk hn => ?_⟩, fun r hr => ?_⟩
  · refine (h5.block k (Nat.lt_of_lt_of_le hk h2.size) (fun hm => ?_)).trans (h2.block k hk hn)
    rcases List.mem_cons.1 hm with rfl | hm
    · exact hn (by simp)
    · have e : v2.ownBlock = some k := by simpa [Option.mem_toList] using hm
      rcases hf k e with h | h
      · exact hn (by simp [h])
      · omega
  · rcases h6 r hr with h | h
    · exact hf r h
    · have := h2.size; exact .inr (by omega)
set_option linter.unusedSimpArgs false in
set_option maxRecDepth 100000 in
set_option maxHeartbeats 8000000 in
/-- The end of Put: a command joins the row. -/
theorem app_go {w w4 : World} {B g gx : Nat} (hB : B ≤ w.heap.size) {v : Value} {l : List Cm} {c : Cm} (hl : l.length ≤ 100000) (hg : Blk w g 105 #[v]) (ho : w.ownsRow B 36 7 v l.length (l.flatMap cmL)) (hx : Blk w gx 36 (cmC c)) (hgx : ∀ r, v.ownBlock = some r → r ≠ gx) (hw : w4 = w.drew) :
    ∃ v' w2 w3 A n k, (Builtin.append_ #[30, 30] 30 #[v, .slice (some ⟨w4.heap.size, 0, none⟩) 1 1]).run Try.prog (w4.alloc (.cells (cmC c) 36)) = .ok v' w2 ∧ v' = .slice A n k ∧ (Instr.storeAt 30 (.pointer (some ⟨g, 0, none⟩)) v').run Try.prog w2 = .ok () w3 ∧
      QGo w B g v (l ++ [c]) w3 ∧ Blk w2 gx 36 (cmC c) ∧ (gx ≠ g → Blk w3 gx 36 (cmC c)) := by
  subst hw
  have hbA : Below w.heap.size w.drew (w.drew.alloc (.cells (cmC c) 36)) := (Below.refl w.heap.size w.drew).alloc (show w.heap.size ≤ w.drew.heap.size from Nat.le_refl _) _
  have hbA0 : Below w.heap.size w (w.drew.alloc (.cells (cmC c) 36)) := ⟨hbA.os, hbA.tape, hbA.output, hbA.size, hbA.block⟩
  have hnew := Blk.new w.drew 36 (cmC c)
  have hr := cm_row hnew
  have ho1 : (w.drew.alloc (.cells (cmC c) 36)).ownsRow B 36 7 v l.length (l.flatMap cmL) := own_below (h0 := w.heap.size) ho hbA0 (fun q hq => (ho.lt q hq).2)
  obtain ⟨v', w2, happ, h2, hg2, hor⟩ := app_any (base := B) (by simp; omega) ho1 hr (c := 1) (by simp; omega) 30
  obtain ⟨A, k, hv'⟩ := own_slice h2
  have hgg : Blk (w.drew.alloc (.cells (cmC c) 36)) g 105 #[v] := hg.below hbA0 hg.lt
  have hgn := own_ne ho1 hgg
  have hg3 := hgg.grown hg2 (fun he => hgn he.symm)
  have hxx : Blk (w.drew.alloc (.cells (cmC c) 36)) gx 36 (cmC c) := hx.below hbA0 hx.lt
  have hx3 := hxx.grown hg2 (fun he => hgx _ he.symm rfl)
  obtain ⟨w3, hst, hg4, hgr⟩ := store_q hg3 A (l ++ [c]).length k
  refine ⟨v', w2, w3, A, _, k, happ, hv', by rw [hv']; exact hst, ⟨v', by rw [hv']; exact hg4, own_grown2 h2 hgr (fun q hq he => own_ne h2 hg3 (by rw [hq, he])), ?_, fun r hr' => ?_⟩, hx3, fun hne => hx3.grown hgr (fun he => hne (Option.some.inj he))⟩
  · have o1 : Outs (g :: v.ownBlock.toList) w (w.drew.alloc (.cells (cmC c) 36)) := Outs.of_below hbA0
    have o2 : Outs (g :: v.ownBlock.toList) (w.drew.alloc (.cells (cmC c) 36)) w2 := ⟨hg2.os, hg2.tape, hg2.output, hg2.size, fun k hk hn => hg2.block k hk (fun he => hn (by simp [← he]))⟩
    exact (o1.trans o2).trans (Outs.of_grown hgr (by simp))
  · rcases hor with h | h
    · exact .inl (h.symm.trans hr')
    · refine .inr ?_
      rw [h] at hr'
      cases hr'
      simp
set_option linter.unusedSimpArgs false in
set_option linter.unusedVariables false in
set_option maxRecDepth 100000 in
set_option maxHeartbeats 16000000 in
theorem put_any (g : Nat) (l : List Cm) (hl : l.length ≤ 90000) (c : Cm) (hcf : c.Fits) (B : Nat) (v : Value) (w : World) (hB : B ≤ w.heap.size) (hg : Blk w g 105 #[v]) (ho : w.ownsRow B 36 7 v l.length (l.flatMap cmL)) :
    Calls Try.prog 37 #[.pointer (some ⟨g, 0, none⟩), cmV c] w fun e w' => e = .returned (.int .i64 ((putQ l c).2 : Int)) ∧ QGo w B g v (putQ l c).1 w' := by
  have HCK := Lib.hid (fun W => check_any c hcf W)
  have hput : putQ l c = if mayB c = false then (l, 2) else match findN l c.client with
    | none => (l ++ [c], 0)
    | some i => match l[i]? with
      | none => (l, 0)
      | some d => if c.seq < d.seq then (l, 12) else if d.seq = c.seq then (l, 0) else (l.eraseIdx i ++ [c], 0) := rfl
  obtain ⟨res, hres⟩ : ∃ p, p = putQ l c := ⟨_, rfl⟩
  rw [← hres] at hput ⊢
  have HR := Lib.hid hput
  clear hput hres
  obtain ⟨A0, c0, hv0, hr0, _⟩ := (Lies.of_own ho).rows
  -- the command's own block
  have kx := Blk.new w 36 (cmC c)
  have bx : Below w.heap.size w (w.alloc (.cells (cmC c) 36)) := (Below.refl _ w).alloc (Nat.le_refl _) _
  have hg1 := hg.below bx hg.lt
  have ho1 := own_below (h0 := w.heap.size) ho bx (fun q hq => (ho.lt q hq).2)
  have hr1 := hr0.below bx
  have hglt := hg.lt
  have hvlt := ho.lt
  obtain ⟨gx, hgx⟩ : ∃ gx, gx = w.heap.size := ⟨_, rfl⟩
  have hne : gx ≠ g := by omega
  have hrx : ∀ r, v.ownBlock = some r → r ≠ gx := fun r hr => by have := (hvlt r hr).2; omega
  rw [← hgx] at kx
  generalize hmb : mayB c = mb at *
  have HMB := Lib.hid hmb
  clear hmb
  have HF := Lib.hid (fun (W : World) (k : Nat) (h1 : Rows W A0 7 cmL l) (h2 : Blk W g 105 #[v]) => find_any g l (by omega) A0 c0 k W h1 (by unfold QRow; rw [← hv0]; exact h2))
  have HAPP := Lib.hid (fun (W : World) (vv : Value) (l' : List Cm) (W4 : World) (hl' : l'.length ≤ 100000) (h0 : B ≤ W.heap.size) (h1 : Blk W g 105 #[vv]) (h2 : W.ownsRow B 36 7 vv l'.length (l'.flatMap cmL)) (h3 : Blk W gx 36 (cmC c)) (h4 : ∀ r, vv.ownBlock = some r → r ≠ gx) (h5 : W4 = W.drew) => app_go (gx := gx) h0 hl' h1 h2 h3 h4 h5)
  obtain ⟨ca, cb, ck, cs, ct, cu, cz⟩ := c
  unfold cmV cmC at *
  dsimp only at HR HCK HAPP kx bx hg1 ho1 hr1 ⊢
  go_enter Try.func37, Try.ntmps37
  go_upto_region 3 with fail
  rw [← hgx]
  generalize w.alloc (.cells #[.int .u8 (ca : Int), .int .u32 (cb : Int), .int .u8 (ck : Int), .string ⟨cs.toArray⟩, .string ⟨ct.toArray⟩, .string ⟨cu.toArray⟩, .int .u8 (cz : Int)] 36) = w1 at *
  have HO := Lib.hid ho
  have HG := Lib.hid hg
  have HV0 := Lib.hid hv0
  have HB1 := Lib.hid bx
  clear ho hg hr0 hglt hvlt hv0 bx hgx
  have x0 := kx.cell 0
  have x1 := kx.cell 1
  have x2 := kx.cell 2
  have x3 := kx.cell 3
  have x4 := kx.cell 4
  have x5 := kx.cell 5
  have x6 := kx.cell 6
  go_wp2_with fail
  refine (HCK.out w1).mono ?_; rintro e w2 ⟨rfl, B2⟩
  have kx2 := kx.below B2 kx.lt
  have hg2 := hg1.below B2 hg1.lt
  have ho2 := own_below (h0 := w1.heap.size) ho1 B2 (fun q hq => (ho1.lt q hq).2)
  have hr2 := hr1.below B2
  have b2 := HB1.out.trans (B2.mono HB1.out.size)
  clear kx hg1 ho1 hr1 B2 x0 x1 x2 x3 x4 x5 x6 HCK HB1
  cases mb
  · have hres := HR.out
    simp only [if_true] at hres
    subst hres
    have HQ := Lib.hid (QGo.keep HG.out HO.out b2)
    clear HR HF HAPP hg2 ho2 hr2 b2 kx2
    simp only [Bool.false_eq_true, if_false]
    go_wp2_with fail
    go_ret
    exact ⟨rfl, HQ.out⟩
  simp only [if_true]
  have x0 : w2.cell? ⟨gx, 0, none⟩ = some (.int .u8 (ca : Int)) := kx2.cell 0
  go_wp2_with fail
  refine (HF.out w2 ca hr2 hg2).mono ?_; rintro e w3 ⟨rfl, B3⟩
  have kx3 := kx2.below B3 kx2.lt
  have hg3 := hg2.below B3 hg2.lt
  have ho3 := own_below (h0 := w2.heap.size) ho2 B3 (fun q hq => (ho2.lt q hq).2)
  have hr3 := hr2.below B3
  have b3 := b2.trans (B3.mono b2.size)
  clear kx2 hg2 ho2 hr2 B3 b2 x0 HF
  have hres := HR.out
  simp only [Bool.true_eq_false, if_false] at hres
  cases hfn : findN l ca with
  | none =>
    rw [hfn] at hres
    simp only at hres
    subst hres
    rw [findI_none hfn]
    obtain ⟨v', wA, wB, A5, n5, k5, happ, hv', hst, HQ5, kx4, kx5⟩ := HAPP.out w3 v l w3.drew (by omega) (by have := b3.size; omega) hg3 ho3 kx3 hrx rfl
    subst hv'
    obtain ⟨A9, c9, hv9⟩ := own_slice ho3
    have kx5 := kx5 hne
    have HQ : Hid (QGo w B g v (l ++ [⟨ca, cb, ck, cs, ct, cu, cz⟩]) wB) := QGo.trans (Outs.of_below b3) (fun r h => .inl h) HQ5
    have hgP := hg3
    rw [hv9] at hgP happ
    have kxP := kx3
    have HV9 := Lib.hid hv9
    clear hg3 kx3 HAPP hv9
    go_wp2_with fail
    have kxd : Blk w3.drew gx 36 #[.int .u8 (ca : Int), .int .u32 (cb : Int), .int .u8 (ck : Int), .string ⟨cs.toArray⟩, .string ⟨ct.toArray⟩, .string ⟨cu.toArray⟩, .int .u8 (cz : Int)] := kxP
    have hgd : Blk w3.drew g 105 #[.slice A9 l.length c9] := hgP
    have kx1 := kxd.alloc (.cells #[.int .u8 (ca : Int), .int .u32 (cb : Int), .int .u8 (ck : Int), .string ⟨cs.toArray⟩, .string ⟨ct.toArray⟩, .string ⟨cu.toArray⟩, .int .u8 (cz : Int)] 36)
    have hl0 := load_q hgd
    have hl1 := load_q (hgd.alloc (.cells #[.int .u8 (ca : Int), .int .u32 (cb : Int), .int .u8 (ck : Int), .string ⟨cs.toArray⟩, .string ⟨ct.toArray⟩, .string ⟨cu.toArray⟩, .int .u8 (cz : Int)] 36))
    have hls := kxd.lt
    clear hgd hgP kxP
    go_upto_region 12 with fail
    refine wp_region_held_drew (S := (fun W : World => Blk W gx 36 #[.int .u8 (ca : Int), .int .u32 (cb : Int), .int .u8 (ck : Int), .string ⟨cs.toArray⟩, .string ⟨ct.toArray⟩, .string ⟨cu.toArray⟩, .int .u8 (cz : Int)])) (by kernel_rfl) (kxd) (fun hHeld => ?_)
    refine take1 (i := 0) (d := 50) (v := ?_) rfl (by kernel_rfl) (by kernel_rfl) (by kernel_rfl) rfl (fun _ _ _ h => h) (Or.inl ⟨by rfl, ?_⟩) (by assumption) ?_
    rotate_left
    · (intro w hSw; (try dsimp only at hSw); go_simp); with_reducible rfl
    simp only [List.set_cons_zero, List.set_cons_succ]
    refine take1 (i := 1) (d := 51) (v := ?_) rfl (by kernel_rfl) (by kernel_rfl) (by kernel_rfl) rfl (fun _ _ _ h => h) (Or.inl ⟨by rfl, ?_⟩) (by assumption) ?_
    rotate_left
    · (intro w hSw; (try dsimp only at hSw); go_simp); with_reducible rfl
    simp only [List.set_cons_zero, List.set_cons_succ]
    refine take1 (i := 2) (d := 52) (v := ?_) rfl (by kernel_rfl) (by kernel_rfl) (by kernel_rfl) rfl (fun _ _ _ h => h) (Or.inl ⟨by rfl, ?_⟩) (by assumption) ?_
    rotate_left
    · (intro w hSw; (try dsimp only at hSw); go_simp); with_reducible rfl
    simp only [List.set_cons_zero, List.set_cons_succ]
    refine take1 (i := 3) (d := 53) (v := ?_) rfl (by kernel_rfl) (by kernel_rfl) (by kernel_rfl) rfl (fun _ _ _ h => h) (Or.inl ⟨by rfl, ?_⟩) (by assumption) ?_
    rotate_left
    · (intro w hSw; (try dsimp only at hSw); go_simp); with_reducible rfl
    simp only [List.set_cons_zero, List.set_cons_succ]
    refine take1 (i := 5) (d := 55) (v := ?_) rfl (by kernel_rfl) (by kernel_rfl) (by kernel_rfl) rfl (fun _ _ _ h => h) (Or.inl ⟨by rfl, ?_⟩) (by assumption) ?_
    rotate_left
    · intro w hSw; refine (exec_load (.tmp 3) (by rfl) (by rfl) (blk_load (P := Try.prog) (ty := 36) hSw Try.underlying36 rfl size_cm)).trans ?_; with_reducible rfl
    simp only [List.set_cons_zero, List.set_cons_succ]
    refine wpAnyH_ready (rs := [4, 6]) (by kernel_rfl) (by simp) (AllReadyH.cons rfl (fun Kreg hKreg => ?_) (AllReadyH.cons rfl (fun Kreg hKreg => ?_) AllReadyH.nil))
    · refine step_load (by rfl) (.tmp 53) (by rfl) (by rfl) (by first | exact hl0 | exact hl1) ?_
      refine hKreg.out _ _ ((by first | exact kxd | exact kx1 | exact kx4 | exact kx5)) (fun hHeld => ?_)
      clear hKreg Kreg
      refine wpAnyH_put (d := 54) (by rfl) ?_
      simp only [List.set_cons_zero, List.set_cons_succ]
      refine wpAnyH_ready (rs := [6]) (by kernel_rfl) (by simp) (AllReadyH.cons rfl (fun Kreg hKreg => ?_) AllReadyH.nil)
      refine step_exec (by rfl) (.slice (some ⟨w3.drew.heap.size, 0, none⟩) 1 1) (w3.drew.alloc (.cells #[.int .u8 (ca : Int), .int .u32 (cb : Int), .int .u8 (ck : Int), .string ⟨cs.toArray⟩, .string ⟨ct.toArray⟩, .string ⟨cu.toArray⟩, .int .u8 (cz : Int)] 36)) (by go_simp) ?_
      refine hKreg.out _ _ ((by first | exact kxd | exact kx1 | exact kx4 | exact kx5)) (fun hHeld => ?_)
      clear hKreg Kreg
      refine wpAnyH_put (d := 56) (by rfl) ?_
      simp only [List.set_cons_zero, List.set_cons_succ]
      refine wpAnyH_ready (rs := [7]) (by kernel_rfl) (by simp) (AllReadyH.cons rfl (fun Kreg hKreg => ?_) AllReadyH.nil)
      refine step_run_append (by rfl) (.tmp 54) (.tmp 56) 30 (by rfl) (by rfl) (by rfl) happ ?_
      refine hKreg.out _ _ ((by first | exact kxd | exact kx1 | exact kx4 | exact kx5)) (fun hHeld => ?_)
      clear hKreg Kreg
      refine wpAnyH_put (d := 57) (by rfl) ?_
      simp only [List.set_cons_zero, List.set_cons_succ]
      refine take1 (i := 8) (d := 58) (v := ?_) rfl (by kernel_rfl) (by kernel_rfl) (by kernel_rfl) rfl (fun _ _ _ h => h) (Or.inl ⟨by rfl, ?_⟩) (by assumption) ?_
      rotate_left
      · (intro w hSw; (try dsimp only at hSw); go_simp); with_reducible rfl
      simp only [List.set_cons_zero, List.set_cons_succ]
      refine take1 (i := 9) (d := 59) (v := ?_) rfl (by kernel_rfl) (by kernel_rfl) (by kernel_rfl) rfl (fun _ _ _ h => h) (Or.inl ⟨by rfl, ?_⟩) (by assumption) ?_
      rotate_left
      · (intro w hSw; (try dsimp only at hSw); go_simp); with_reducible rfl
      simp only [List.set_cons_zero, List.set_cons_succ]
      refine wpAnyH_ready (rs := [10]) (by kernel_rfl) (by simp) (AllReadyH.cons rfl (fun Kreg hKreg => ?_) AllReadyH.nil)
      refine step_store (by rfl) (.tmp 59) (.tmp 57) (by rfl) (by rfl) (by rfl) hst ?_
      refine hKreg.out _ _ ((by first | exact kxd | exact kx1 | exact kx4 | exact kx5)) (fun hHeld => ?_)
      clear hKreg Kreg
      try simp only [Act.put, List.setIfInBounds_toArray, List.set_cons_zero, List.set_cons_succ]
      refine wpAnyH_done (by kernel_rfl) ?_ _
      go_wp2_with fail
      go_ret
      exact ⟨rfl, HQ.out⟩
    · refine step_exec (by rfl) (.slice (some ⟨w3.drew.heap.size, 0, none⟩) 1 1) (w3.drew.alloc (.cells #[.int .u8 (ca : Int), .int .u32 (cb : Int), .int .u8 (ck : Int), .string ⟨cs.toArray⟩, .string ⟨ct.toArray⟩, .string ⟨cu.toArray⟩, .int .u8 (cz : Int)] 36)) (by go_simp) ?_
      refine hKreg.out _ _ ((by first | exact kxd | exact kx1 | exact kx4 | exact kx5)) (fun hHeld => ?_)
      clear hKreg Kreg
      refine wpAnyH_put (d := 56) (by rfl) ?_
      simp only [List.set_cons_zero, List.set_cons_succ]
      refine wpAnyH_ready (rs := [4]) (by kernel_rfl) (by simp) (AllReadyH.cons rfl (fun Kreg hKreg => ?_) AllReadyH.nil)
      refine step_load (by rfl) (.tmp 53) (by rfl) (by rfl) (by first | exact hl0 | exact hl1) ?_
      refine hKreg.out _ _ ((by first | exact kxd | exact kx1 | exact kx4 | exact kx5)) (fun hHeld => ?_)
      clear hKreg Kreg
      refine wpAnyH_put (d := 54) (by rfl) ?_
      simp only [List.set_cons_zero, List.set_cons_succ]
      refine wpAnyH_ready (rs := [7]) (by kernel_rfl) (by simp) (AllReadyH.cons rfl (fun Kreg hKreg => ?_) AllReadyH.nil)
      refine step_run_append (by rfl) (.tmp 54) (.tmp 56) 30 (by rfl) (by rfl) (by rfl) happ ?_
      refine hKreg.out _ _ ((by first | exact kxd | exact kx1 | exact kx4 | exact kx5)) (fun hHeld => ?_)
      clear hKreg Kreg
      refine wpAnyH_put (d := 57) (by rfl) ?_
      simp only [List.set_cons_zero, List.set_cons_succ]
      refine take1 (i := 8) (d := 58) (v := ?_) rfl (by kernel_rfl) (by kernel_rfl) (by kernel_rfl) rfl (fun _ _ _ h => h) (Or.inl ⟨by rfl, ?_⟩) (by assumption) ?_
      rotate_left
      · (intro w hSw; (try dsimp only at hSw); go_simp); with_reducible rfl
      simp only [List.set_cons_zero, List.set_cons_succ]
      refine take1 (i := 9) (d := 59) (v := ?_) rfl (by kernel_rfl) (by kernel_rfl) (by kernel_rfl) rfl (fun _ _ _ h => h) (Or.inl ⟨by rfl, ?_⟩) (by assumption) ?_
      rotate_left
      · (intro w hSw; (try dsimp only at hSw); go_simp); with_reducible rfl
      simp only [List.set_cons_zero, List.set_cons_succ]
      refine wpAnyH_ready (rs := [10]) (by kernel_rfl) (by simp) (AllReadyH.cons rfl (fun Kreg hKreg => ?_) AllReadyH.nil)
      refine step_store (by rfl) (.tmp 59) (.tmp 57) (by rfl) (by rfl) (by rfl) hst ?_
      refine hKreg.out _ _ ((by first | exact kxd | exact kx1 | exact kx4 | exact kx5)) (fun hHeld => ?_)
      clear hKreg Kreg
      try simp only [Act.put, List.setIfInBounds_toArray, List.set_cons_zero, List.set_cons_succ]
      refine wpAnyH_done (by kernel_rfl) ?_ _
      go_wp2_with fail
      go_ret
      exact ⟨rfl, HQ.out⟩
  | some i =>
    rw [hfn] at hres
    simp only at hres
    rw [findI_some hfn]
    have hil := find_lt hfn
    obtain ⟨x, hx, _⟩ := find_at hfn
    rw [hx] at hres
    simp only at hres
    obtain ⟨r, c9, hv9⟩ := own_full HO.out (by omega)
    have hA9 : A0 = some ⟨r, 0, none⟩ ∧ c0 = c9 := by have h := HV0.out; rw [hv9] at h; injection h with h1 h2 h3; exact ⟨h1.symm, h3.symm⟩
    obtain ⟨rfl, rfl⟩ := hA9
    obtain ⟨ad, had, hadl, _, z1⟩ := hr3.at_ hx
    have hd : ad = ⟨r, 0, none⟩ := (Option.some.inj had).symm
    have c1 := z1 0 _ rfl
    have hrg : g ≠ r := fun he => own_ne HO.out HG.out (by rw [hv9, he]; rfl)
    have hrx2 : r ≠ gx := hrx r (by rw [hv9]; rfl)
    have e0 : (#[v] : Array Value) = #[.slice (some ad) l.length c0] := by rw [hv9, hd]
    have HE := Lib.hid e0
    have hgd : Blk w3.drew g 105 #[.slice (some ad) l.length c0] := by rw [← e0]; exact hg3
    have kxd : Blk w3.drew gx 36 #[.int .u8 (ca : Int), .int .u32 (cb : Int), .int .u8 (ck : Int), .string ⟨cs.toArray⟩, .string ⟨ct.toArray⟩, .string ⟨cu.toArray⟩, .int .u8 (cz : Int)] := kx3
    have b0 : (ad.add (i * 7)).block < w3.drew.heap.size := by rw [block_of_add]; exact hadl
    have c1d : w3.drew.cell? { block := (ad.add (i * 7)).block, off := (ad.add (i * 7)).off + 1 } = some (.int .u32 (x.seq : Int)) := c1
    have hni : (i : Int) < (l.length : Int) := by omega
    have HRES := Lib.hid hres
    have HHD := Lib.hid hd
    have HV9 := Lib.hid hv9
    have HB3 := Lib.hid b3
    have HO3 := Lib.hid ho3
    have HG3 := Lib.hid hg3
    have HFN := Lib.hid hfn
    have HIL := Lib.hid hil
    obtain ⟨n, hn⟩ : ∃ n, n = l.length := ⟨_, rfl⟩
    rw [← hn] at hgd hni
    have HN := Lib.hid hn
    generalize x.seq = xq at *
    clear hres hd hv9 b3 ho3 hg3 hfn had z1 hx c1 hr3 HR e0 hn hil
    by_cases q1 : cb < xq
    · have hres := HRES.out
      rw [if_pos q1] at hres
      subst hres
      have hq1 : (cb : Int) < (xq : Int) := by omega
      have HQ : Hid (QGo w B g v l w3) := QGo.keep HG.out HO.out HB3.out
      clear q1 HAPP
      go_upto_region 7 with fail
      refine region_inv2 (by kernel_rfl) [] [(17, .pointer (some ⟨g, 0, none⟩)), (18, .pointer (some ⟨g, 0, none⟩)), (19, .pointer (some ⟨g, 0, none⟩)), (20, .slice (some ad) n c0), (21, .int .i64 (i : Int)), (22, .pointer (some (ad.add (i * 7)))), (23, .pointer (some { block := (ad.add (i * 7)).block, off := (ad.add (i * 7)).off + 1 })), (24, .int .u32 (xq : Int)), (25, .pointer (some ⟨gx, 1, none⟩)), (26, .int .u32 (cb : Int)), (27, .bool true)] (by kernel_rfl) (by kernel_rfl) rfl (by kernel_rfl) ?_ ?_ ?_
      · intro q hq; cases hq
      · refine And.intro ?_ ?_
        · intro d hd ρ W hcs bw hn hg
          cases hd
          have e0 : ρ (.tmp 0) = .pointer (some ⟨g, 0, none⟩) := hn 0 (by decide)
          clear hn hg
          refine .inl ⟨trivial, ?_⟩
          refine .inl ⟨_, W, rfl, e0, Below.refl _ _⟩
        refine And.intro ?_ ?_
        · intro d hd ρ W hcs bw hn hg
          cases hd
          have e17 : ρ (.tmp 17) = .pointer (some ⟨g, 0, none⟩) := hn 17 (by decide)
          clear hn hg
          refine .inl ⟨trivial, ?_⟩
          refine .inl ⟨.pointer (some ⟨g, 0, none⟩), W, ?_, rfl, Below.refl _ _⟩
          go_simp
        refine And.intro ?_ ?_
        · intro d hd ρ W hcs bw hn hg
          cases hd
          have e18 : ρ (.tmp 18) = .pointer (some ⟨g, 0, none⟩) := hn 18 (by decide)
          clear hn hg
          refine .inl ⟨trivial, ?_⟩
          refine .inl ⟨.pointer (some ⟨g, 0, none⟩), W, ?_, rfl, Below.refl _ _⟩
          go_simp
        refine And.intro ?_ ?_
        · intro d hd ρ W hcs bw hn hg
          cases hd
          have e19 : ρ (.tmp 19) = .pointer (some ⟨g, 0, none⟩) := hn 19 (by decide)
          clear hn hg
          refine .inl ⟨trivial, ?_⟩
          have z0 := (hgd.below bw hgd.lt).cell 0
          refine .inl ⟨.slice (some ad) n c0, W, ?_, rfl, Below.refl _ _⟩
          go_simp
        refine And.intro ?_ ?_
        · intro d hd ρ W hcs bw hn hg
          cases hd
          have e5 : ρ (.tmp 5) = .int .i64 (i : Int) := hn 5 (by decide)
          clear hn hg
          refine .inl ⟨trivial, ?_⟩
          refine .inl ⟨_, W, rfl, e5, Below.refl _ _⟩
        refine And.intro ?_ ?_
        · intro d hd ρ W hcs bw hn hg
          cases hd
          have e20 : ρ (.tmp 20) = .slice (some ad) n c0 := hn 20 (by decide)
          have e21 : ρ (.tmp 21) = .int .i64 (i : Int) := hn 21 (by decide)
          clear hn hg
          refine .inl ⟨trivial, ?_⟩
          refine .inl ⟨.pointer (some (ad.add (i * 7))), W, ?_, rfl, Below.refl _ _⟩
          go_simp
        refine And.intro ?_ ?_
        · intro d hd ρ W hcs bw hn hg
          cases hd
          have e22 : ρ (.tmp 22) = .pointer (some (ad.add (i * 7))) := hn 22 (by decide)
          clear hn hg
          refine .inl ⟨trivial, ?_⟩
          refine .inl ⟨.pointer (some { block := (ad.add (i * 7)).block, off := (ad.add (i * 7)).off + 1 }), W, ?_, rfl, Below.refl _ _⟩
          go_simp
        refine And.intro ?_ ?_
        · intro d hd ρ W hcs bw hn hg
          cases hd
          have e23 : ρ (.tmp 23) = .pointer (some { block := (ad.add (i * 7)).block, off := (ad.add (i * 7)).off + 1 }) := hn 23 (by decide)
          clear hn hg
          refine .inl ⟨trivial, ?_⟩
          have z0 : W.cell? { block := (ad.add (i * 7)).block, off := (ad.add (i * 7)).off + 1 } = some (.int .u32 (xq : Int)) := (bw.cell (by exact b0)).trans c1d
          refine .inl ⟨.int .u32 (xq : Int), W, ?_, rfl, Below.refl _ _⟩
          go_simp
        refine And.intro ?_ ?_
        · intro d hd ρ W hcs bw hn hg
          cases hd
          have e3 : ρ (.tmp 3) = .pointer (some ⟨gx, 0, none⟩) := hn 3 (by decide)
          clear hn hg
          refine .inl ⟨trivial, ?_⟩
          refine .inl ⟨.pointer (some ⟨gx, 1, none⟩), W, ?_, rfl, Below.refl _ _⟩
          go_simp
        refine And.intro ?_ ?_
        · intro d hd ρ W hcs bw hn hg
          cases hd
          have e25 : ρ (.tmp 25) = .pointer (some ⟨gx, 1, none⟩) := hn 25 (by decide)
          clear hn hg
          refine .inl ⟨trivial, ?_⟩
          have z0 := (kxd.below bw kxd.lt).cell 1
          refine .inl ⟨.int .u32 (cb : Int), W, ?_, rfl, Below.refl _ _⟩
          go_simp
        refine And.intro ?_ ?_
        · intro d hd ρ W hcs bw hn hg
          cases hd
          have e24 : ρ (.tmp 24) = .int .u32 (xq : Int) := hn 24 (by decide)
          have e26 : ρ (.tmp 26) = .int .u32 (cb : Int) := hn 26 (by decide)
          clear hn hg
          refine .inl ⟨trivial, ?_⟩
          refine .inl ⟨.bool true, W, ?_, rfl, Below.refl _ _⟩
          go_simp
        trivial
      intro a' w' hsz hdf hb hVs
      have q27 : a'.eval (.tmp 27) = .bool true := hVs 27
      have ha := slot_over_seg 17 11 [] rfl (by kernel_rfl) (of_decide_eq_true (by kernel_rfl)) hsz hdf hVs
      clear hVs hsz hdf
      rw [show List.range' 17 11 = [17, 18, 19, 20, 21, 22, 23, 24, 25, 26, 27] from rfl] at ha
      simp only [List.take_succ_cons, List.take_zero, List.drop_succ_cons, List.drop_zero, List.map_cons, List.map_nil, List.cons_append, List.nil_append, List.foldl_cons, List.foldl_nil, List.set_cons_zero, List.set_cons_succ, q27] at ha
      clear q27
      generalize a'.eval (.tmp 17) = x17 at ha
      generalize a'.eval (.tmp 18) = x18 at ha
      generalize a'.eval (.tmp 19) = x19 at ha
      generalize a'.eval (.tmp 20) = x20 at ha
      generalize a'.eval (.tmp 21) = x21 at ha
      generalize a'.eval (.tmp 22) = x22 at ha
      generalize a'.eval (.tmp 23) = x23 at ha
      generalize a'.eval (.tmp 24) = x24 at ha
      generalize a'.eval (.tmp 25) = x25 at ha
      generalize a'.eval (.tmp 26) = x26 at ha
      subst ha
      have HQ2 : Hid (QGo w B g v l w') := QGo.keep HG.out HO.out (HB3.out.drew.trans (hb.mono HB3.out.drew.size))
      go_wp2_with fail
      go_ret
      exact ⟨rfl, HQ2.out⟩
    have hq1 : ¬ (cb : Int) < (xq : Int) := by omega
    go_upto_region 7 with fail
    refine region_inv2 (by kernel_rfl) [] [(17, .pointer (some ⟨g, 0, none⟩)), (18, .pointer (some ⟨g, 0, none⟩)), (19, .pointer (some ⟨g, 0, none⟩)), (20, .slice (some ad) n c0), (21, .int .i64 (i : Int)), (22, .pointer (some (ad.add (i * 7)))), (23, .pointer (some { block := (ad.add (i * 7)).block, off := (ad.add (i * 7)).off + 1 })), (24, .int .u32 (xq : Int)), (25, .pointer (some ⟨gx, 1, none⟩)), (26, .int .u32 (cb : Int)), (27, .bool false)] (by kernel_rfl) (by kernel_rfl) rfl (by kernel_rfl) ?_ ?_ ?_
    · intro q hq; cases hq
    · refine And.intro ?_ ?_
      · intro d hd ρ W hcs bw hn hg
        cases hd
        have e0 : ρ (.tmp 0) = .pointer (some ⟨g, 0, none⟩) := hn 0 (by decide)
        clear hn hg
        refine .inl ⟨trivial, ?_⟩
        refine .inl ⟨_, W, rfl, e0, Below.refl _ _⟩
      refine And.intro ?_ ?_
      · intro d hd ρ W hcs bw hn hg
        cases hd
        have e17 : ρ (.tmp 17) = .pointer (some ⟨g, 0, none⟩) := hn 17 (by decide)
        clear hn hg
        refine .inl ⟨trivial, ?_⟩
        refine .inl ⟨.pointer (some ⟨g, 0, none⟩), W, ?_, rfl, Below.refl _ _⟩
        go_simp
      refine And.intro ?_ ?_
      · intro d hd ρ W hcs bw hn hg
        cases hd
        have e18 : ρ (.tmp 18) = .pointer (some ⟨g, 0, none⟩) := hn 18 (by decide)
        clear hn hg
        refine .inl ⟨trivial, ?_⟩
        refine .inl ⟨.pointer (some ⟨g, 0, none⟩), W, ?_, rfl, Below.refl _ _⟩
        go_simp
      refine And.intro ?_ ?_
      · intro d hd ρ W hcs bw hn hg
        cases hd
        have e19 : ρ (.tmp 19) = .pointer (some ⟨g, 0, none⟩) := hn 19 (by decide)
        clear hn hg
        refine .inl ⟨trivial, ?_⟩
        have z0 := (hgd.below bw hgd.lt).cell 0
        refine .inl ⟨.slice (some ad) n c0, W, ?_, rfl, Below.refl _ _⟩
        go_simp
      refine And.intro ?_ ?_
      · intro d hd ρ W hcs bw hn hg
        cases hd
        have e5 : ρ (.tmp 5) = .int .i64 (i : Int) := hn 5 (by decide)
        clear hn hg
        refine .inl ⟨trivial, ?_⟩
        refine .inl ⟨_, W, rfl, e5, Below.refl _ _⟩
      refine And.intro ?_ ?_
      · intro d hd ρ W hcs bw hn hg
        cases hd
        have e20 : ρ (.tmp 20) = .slice (some ad) n c0 := hn 20 (by decide)
        have e21 : ρ (.tmp 21) = .int .i64 (i : Int) := hn 21 (by decide)
        clear hn hg
        refine .inl ⟨trivial, ?_⟩
        refine .inl ⟨.pointer (some (ad.add (i * 7))), W, ?_, rfl, Below.refl _ _⟩
        go_simp
      refine And.intro ?_ ?_
      · intro d hd ρ W hcs bw hn hg
        cases hd
        have e22 : ρ (.tmp 22) = .pointer (some (ad.add (i * 7))) := hn 22 (by decide)
        clear hn hg
        refine .inl ⟨trivial, ?_⟩
        refine .inl ⟨.pointer (some { block := (ad.add (i * 7)).block, off := (ad.add (i * 7)).off + 1 }), W, ?_, rfl, Below.refl _ _⟩
        go_simp
      refine And.intro ?_ ?_
      · intro d hd ρ W hcs bw hn hg
        cases hd
        have e23 : ρ (.tmp 23) = .pointer (some { block := (ad.add (i * 7)).block, off := (ad.add (i * 7)).off + 1 }) := hn 23 (by decide)
        clear hn hg
        refine .inl ⟨trivial, ?_⟩
        have z0 : W.cell? { block := (ad.add (i * 7)).block, off := (ad.add (i * 7)).off + 1 } = some (.int .u32 (xq : Int)) := (bw.cell (by exact b0)).trans c1d
        refine .inl ⟨.int .u32 (xq : Int), W, ?_, rfl, Below.refl _ _⟩
        go_simp
      refine And.intro ?_ ?_
      · intro d hd ρ W hcs bw hn hg
        cases hd
        have e3 : ρ (.tmp 3) = .pointer (some ⟨gx, 0, none⟩) := hn 3 (by decide)
        clear hn hg
        refine .inl ⟨trivial, ?_⟩
        refine .inl ⟨.pointer (some ⟨gx, 1, none⟩), W, ?_, rfl, Below.refl _ _⟩
        go_simp
      refine And.intro ?_ ?_
      · intro d hd ρ W hcs bw hn hg
        cases hd
        have e25 : ρ (.tmp 25) = .pointer (some ⟨gx, 1, none⟩) := hn 25 (by decide)
        clear hn hg
        refine .inl ⟨trivial, ?_⟩
        have z0 := (kxd.below bw kxd.lt).cell 1
        refine .inl ⟨.int .u32 (cb : Int), W, ?_, rfl, Below.refl _ _⟩
        go_simp
      refine And.intro ?_ ?_
      · intro d hd ρ W hcs bw hn hg
        cases hd
        have e24 : ρ (.tmp 24) = .int .u32 (xq : Int) := hn 24 (by decide)
        have e26 : ρ (.tmp 26) = .int .u32 (cb : Int) := hn 26 (by decide)
        clear hn hg
        refine .inl ⟨trivial, ?_⟩
        refine .inl ⟨.bool false, W, ?_, rfl, Below.refl _ _⟩
        go_simp
      trivial
    intro a' w' hsz hdf hb hVs
    have q27 : a'.eval (.tmp 27) = .bool false := hVs 27
    have ha := slot_over_seg 17 11 [] rfl (by kernel_rfl) (of_decide_eq_true (by kernel_rfl)) hsz hdf hVs
    clear hVs hsz hdf
    rw [show List.range' 17 11 = [17, 18, 19, 20, 21, 22, 23, 24, 25, 26, 27] from rfl] at ha
    simp only [List.take_succ_cons, List.take_zero, List.drop_succ_cons, List.drop_zero, List.map_cons, List.map_nil, List.cons_append, List.nil_append, List.foldl_cons, List.foldl_nil, List.set_cons_zero, List.set_cons_succ, q27] at ha
    clear q27
    generalize a'.eval (.tmp 17) = x17 at ha
    generalize a'.eval (.tmp 18) = x18 at ha
    generalize a'.eval (.tmp 19) = x19 at ha
    generalize a'.eval (.tmp 20) = x20 at ha
    generalize a'.eval (.tmp 21) = x21 at ha
    generalize a'.eval (.tmp 22) = x22 at ha
    generalize a'.eval (.tmp 23) = x23 at ha
    generalize a'.eval (.tmp 24) = x24 at ha
    generalize a'.eval (.tmp 25) = x25 at ha
    generalize a'.eval (.tmp 26) = x26 at ha
    subst ha
    obtain ⟨w4, hw4⟩ : ∃ w4 : World, w4 = w' := ⟨_, rfl⟩
    rw [← hw4] at hb ⊢
    clear hw4
    have hgd4 := hgd.below hb hgd.lt
    have kxd4 := kxd.below hb kxd.lt
    have c1d4 : w4.cell? { block := (ad.add (i * 7)).block, off := (ad.add (i * 7)).off + 1 } = some (.int .u32 (xq : Int)) := (hb.cell (by exact b0)).trans c1d
    have HB4 := Lib.hid (HB3.out.drew.trans (hb.mono HB3.out.drew.size))
    have b04 : (ad.add (i * 7)).block < w4.drew.heap.size := Nat.lt_of_lt_of_le b0 hb.size
    have HO4 := Lib.hid (own_below (w := w3.drew) (h0 := w3.drew.heap.size) HO3.out hb (fun q hq => (HO3.out.lt q hq).2))
    have hgd : Blk w4.drew g 105 #[.slice (some ad) n c0] := hgd4
    have kxd : Blk w4.drew gx 36 #[.int .u8 (ca : Int), .int .u32 (cb : Int), .int .u8 (ck : Int), .string ⟨cs.toArray⟩, .string ⟨ct.toArray⟩, .string ⟨cu.toArray⟩, .int .u8 (cz : Int)] := kxd4
    have c1d : w4.drew.cell? { block := (ad.add (i * 7)).block, off := (ad.add (i * 7)).off + 1 } = some (.int .u32 (xq : Int)) := c1d4
    have b0 := b04
    clear hgd4 kxd4 c1d4 b04 hb
    by_cases q2 : xq = cb
    · have hres := HRES.out
      rw [if_neg q1, if_pos q2] at hres
      subst hres
      have hq2 : ((xq : Int) == (cb : Int)) = true := by rw [q2]; simp
      clear q2 HAPP
      go_upto_region 9 with fail
      refine region_inv2 (by kernel_rfl) [] [(28, .pointer (some ⟨g, 0, none⟩)), (29, .pointer (some ⟨g, 0, none⟩)), (30, .pointer (some ⟨g, 0, none⟩)), (31, .slice (some ad) n c0), (32, .int .i64 (i : Int)), (33, .pointer (some (ad.add (i * 7)))), (34, .pointer (some { block := (ad.add (i * 7)).block, off := (ad.add (i * 7)).off + 1 })), (35, .int .u32 (xq : Int)), (36, .pointer (some ⟨gx, 1, none⟩)), (37, .int .u32 (cb : Int)), (38, .bool true)] (by kernel_rfl) (by kernel_rfl) rfl (by kernel_rfl) ?_ ?_ ?_
      · intro q hq; cases hq
      · refine And.intro ?_ ?_
        · intro d hd ρ W hcs bw hn hg
          cases hd
          have e0 : ρ (.tmp 0) = .pointer (some ⟨g, 0, none⟩) := hn 0 (by decide)
          clear hn hg
          refine .inl ⟨trivial, ?_⟩
          refine .inl ⟨_, W, rfl, e0, Below.refl _ _⟩
        refine And.intro ?_ ?_
        · intro d hd ρ W hcs bw hn hg
          cases hd
          have e28 : ρ (.tmp 28) = .pointer (some ⟨g, 0, none⟩) := hn 28 (by decide)
          clear hn hg
          refine .inl ⟨trivial, ?_⟩
          refine .inl ⟨.pointer (some ⟨g, 0, none⟩), W, ?_, rfl, Below.refl _ _⟩
          go_simp
        refine And.intro ?_ ?_
        · intro d hd ρ W hcs bw hn hg
          cases hd
          have e29 : ρ (.tmp 29) = .pointer (some ⟨g, 0, none⟩) := hn 29 (by decide)
          clear hn hg
          refine .inl ⟨trivial, ?_⟩
          refine .inl ⟨.pointer (some ⟨g, 0, none⟩), W, ?_, rfl, Below.refl _ _⟩
          go_simp
        refine And.intro ?_ ?_
        · intro d hd ρ W hcs bw hn hg
          cases hd
          have e30 : ρ (.tmp 30) = .pointer (some ⟨g, 0, none⟩) := hn 30 (by decide)
          clear hn hg
          refine .inl ⟨trivial, ?_⟩
          have z0 := (hgd.below bw hgd.lt).cell 0
          refine .inl ⟨.slice (some ad) n c0, W, ?_, rfl, Below.refl _ _⟩
          go_simp
        refine And.intro ?_ ?_
        · intro d hd ρ W hcs bw hn hg
          cases hd
          have e5 : ρ (.tmp 5) = .int .i64 (i : Int) := hn 5 (by decide)
          clear hn hg
          refine .inl ⟨trivial, ?_⟩
          refine .inl ⟨_, W, rfl, e5, Below.refl _ _⟩
        refine And.intro ?_ ?_
        · intro d hd ρ W hcs bw hn hg
          cases hd
          have e31 : ρ (.tmp 31) = .slice (some ad) n c0 := hn 31 (by decide)
          have e32 : ρ (.tmp 32) = .int .i64 (i : Int) := hn 32 (by decide)
          clear hn hg
          refine .inl ⟨trivial, ?_⟩
          refine .inl ⟨.pointer (some (ad.add (i * 7))), W, ?_, rfl, Below.refl _ _⟩
          go_simp
        refine And.intro ?_ ?_
        · intro d hd ρ W hcs bw hn hg
          cases hd
          have e33 : ρ (.tmp 33) = .pointer (some (ad.add (i * 7))) := hn 33 (by decide)
          clear hn hg
          refine .inl ⟨trivial, ?_⟩
          refine .inl ⟨.pointer (some { block := (ad.add (i * 7)).block, off := (ad.add (i * 7)).off + 1 }), W, ?_, rfl, Below.refl _ _⟩
          go_simp
        refine And.intro ?_ ?_
        · intro d hd ρ W hcs bw hn hg
          cases hd
          have e34 : ρ (.tmp 34) = .pointer (some { block := (ad.add (i * 7)).block, off := (ad.add (i * 7)).off + 1 }) := hn 34 (by decide)
          clear hn hg
          refine .inl ⟨trivial, ?_⟩
          have z0 : W.cell? { block := (ad.add (i * 7)).block, off := (ad.add (i * 7)).off + 1 } = some (.int .u32 (xq : Int)) := (bw.cell (by exact b0)).trans c1d
          refine .inl ⟨.int .u32 (xq : Int), W, ?_, rfl, Below.refl _ _⟩
          go_simp
        refine And.intro ?_ ?_
        · intro d hd ρ W hcs bw hn hg
          cases hd
          have e3 : ρ (.tmp 3) = .pointer (some ⟨gx, 0, none⟩) := hn 3 (by decide)
          clear hn hg
          refine .inl ⟨trivial, ?_⟩
          refine .inl ⟨.pointer (some ⟨gx, 1, none⟩), W, ?_, rfl, Below.refl _ _⟩
          go_simp
        refine And.intro ?_ ?_
        · intro d hd ρ W hcs bw hn hg
          cases hd
          have e36 : ρ (.tmp 36) = .pointer (some ⟨gx, 1, none⟩) := hn 36 (by decide)
          clear hn hg
          refine .inl ⟨trivial, ?_⟩
          have z0 := (kxd.below bw kxd.lt).cell 1
          refine .inl ⟨.int .u32 (cb : Int), W, ?_, rfl, Below.refl _ _⟩
          go_simp
        refine And.intro ?_ ?_
        · intro d hd ρ W hcs bw hn hg
          cases hd
          have e35 : ρ (.tmp 35) = .int .u32 (xq : Int) := hn 35 (by decide)
          have e37 : ρ (.tmp 37) = .int .u32 (cb : Int) := hn 37 (by decide)
          clear hn hg
          refine .inl ⟨trivial, ?_⟩
          refine .inl ⟨.bool true, W, ?_, rfl, Below.refl _ _⟩
          go_simp
        trivial
      intro a' w' hsz hdf hb hVs
      have q38 : a'.eval (.tmp 38) = .bool true := hVs 38
      have ha := slot_over_seg 28 11 [] rfl (by kernel_rfl) (of_decide_eq_true (by kernel_rfl)) hsz hdf hVs
      clear hVs hsz hdf
      rw [show List.range' 28 11 = [28, 29, 30, 31, 32, 33, 34, 35, 36, 37, 38] from rfl] at ha
      simp only [List.take_succ_cons, List.take_zero, List.drop_succ_cons, List.drop_zero, List.map_cons, List.map_nil, List.cons_append, List.nil_append, List.foldl_cons, List.foldl_nil, List.set_cons_zero, List.set_cons_succ, q38] at ha
      clear q38
      generalize a'.eval (.tmp 28) = x28 at ha
      generalize a'.eval (.tmp 29) = x29 at ha
      generalize a'.eval (.tmp 30) = x30 at ha
      generalize a'.eval (.tmp 31) = x31 at ha
      generalize a'.eval (.tmp 32) = x32 at ha
      generalize a'.eval (.tmp 33) = x33 at ha
      generalize a'.eval (.tmp 34) = x34 at ha
      generalize a'.eval (.tmp 35) = x35 at ha
      generalize a'.eval (.tmp 36) = x36 at ha
      generalize a'.eval (.tmp 37) = x37 at ha
      subst ha
      have HQ2 : Hid (QGo w B g v l w') := QGo.keep HG.out HO.out (HB4.out.drew.trans (hb.mono HB4.out.drew.size))
      go_wp2_with fail
      go_ret
      exact ⟨rfl, HQ2.out⟩
    have hres := HRES.out
    rw [if_neg q1, if_neg q2] at hres
    subst hres
    have hq2 : ((xq : Int) == (cb : Int)) = false := beq_eq_false_iff_ne.2 (by omega)
    clear q1 q2 HRES
    go_upto_region 9 with fail
    refine region_inv2 (by kernel_rfl) [] [(28, .pointer (some ⟨g, 0, none⟩)), (29, .pointer (some ⟨g, 0, none⟩)), (30, .pointer (some ⟨g, 0, none⟩)), (31, .slice (some ad) n c0), (32, .int .i64 (i : Int)), (33, .pointer (some (ad.add (i * 7)))), (34, .pointer (some { block := (ad.add (i * 7)).block, off := (ad.add (i * 7)).off + 1 })), (35, .int .u32 (xq : Int)), (36, .pointer (some ⟨gx, 1, none⟩)), (37, .int .u32 (cb : Int)), (38, .bool false)] (by kernel_rfl) (by kernel_rfl) rfl (by kernel_rfl) ?_ ?_ ?_
    · intro q hq; cases hq
    · refine And.intro ?_ ?_
      · intro d hd ρ W hcs bw hn hg
        cases hd
        have e0 : ρ (.tmp 0) = .pointer (some ⟨g, 0, none⟩) := hn 0 (by decide)
        clear hn hg
        refine .inl ⟨trivial, ?_⟩
        refine .inl ⟨_, W, rfl, e0, Below.refl _ _⟩
      refine And.intro ?_ ?_
      · intro d hd ρ W hcs bw hn hg
        cases hd
        have e28 : ρ (.tmp 28) = .pointer (some ⟨g, 0, none⟩) := hn 28 (by decide)
        clear hn hg
        refine .inl ⟨trivial, ?_⟩
        refine .inl ⟨.pointer (some ⟨g, 0, none⟩), W, ?_, rfl, Below.refl _ _⟩
        go_simp
      refine And.intro ?_ ?_
      · intro d hd ρ W hcs bw hn hg
        cases hd
        have e29 : ρ (.tmp 29) = .pointer (some ⟨g, 0, none⟩) := hn 29 (by decide)
        clear hn hg
        refine .inl ⟨trivial, ?_⟩
        refine .inl ⟨.pointer (some ⟨g, 0, none⟩), W, ?_, rfl, Below.refl _ _⟩
        go_simp
      refine And.intro ?_ ?_
      · intro d hd ρ W hcs bw hn hg
        cases hd
        have e30 : ρ (.tmp 30) = .pointer (some ⟨g, 0, none⟩) := hn 30 (by decide)
        clear hn hg
        refine .inl ⟨trivial, ?_⟩
        have z0 := (hgd.below bw hgd.lt).cell 0
        refine .inl ⟨.slice (some ad) n c0, W, ?_, rfl, Below.refl _ _⟩
        go_simp
      refine And.intro ?_ ?_
      · intro d hd ρ W hcs bw hn hg
        cases hd
        have e5 : ρ (.tmp 5) = .int .i64 (i : Int) := hn 5 (by decide)
        clear hn hg
        refine .inl ⟨trivial, ?_⟩
        refine .inl ⟨_, W, rfl, e5, Below.refl _ _⟩
      refine And.intro ?_ ?_
      · intro d hd ρ W hcs bw hn hg
        cases hd
        have e31 : ρ (.tmp 31) = .slice (some ad) n c0 := hn 31 (by decide)
        have e32 : ρ (.tmp 32) = .int .i64 (i : Int) := hn 32 (by decide)
        clear hn hg
        refine .inl ⟨trivial, ?_⟩
        refine .inl ⟨.pointer (some (ad.add (i * 7))), W, ?_, rfl, Below.refl _ _⟩
        go_simp
      refine And.intro ?_ ?_
      · intro d hd ρ W hcs bw hn hg
        cases hd
        have e33 : ρ (.tmp 33) = .pointer (some (ad.add (i * 7))) := hn 33 (by decide)
        clear hn hg
        refine .inl ⟨trivial, ?_⟩
        refine .inl ⟨.pointer (some { block := (ad.add (i * 7)).block, off := (ad.add (i * 7)).off + 1 }), W, ?_, rfl, Below.refl _ _⟩
        go_simp
      refine And.intro ?_ ?_
      · intro d hd ρ W hcs bw hn hg
        cases hd
        have e34 : ρ (.tmp 34) = .pointer (some { block := (ad.add (i * 7)).block, off := (ad.add (i * 7)).off + 1 }) := hn 34 (by decide)
        clear hn hg
        refine .inl ⟨trivial, ?_⟩
        have z0 : W.cell? { block := (ad.add (i * 7)).block, off := (ad.add (i * 7)).off + 1 } = some (.int .u32 (xq : Int)) := (bw.cell (by exact b0)).trans c1d
        refine .inl ⟨.int .u32 (xq : Int), W, ?_, rfl, Below.refl _ _⟩
        go_simp
      refine And.intro ?_ ?_
      · intro d hd ρ W hcs bw hn hg
        cases hd
        have e3 : ρ (.tmp 3) = .pointer (some ⟨gx, 0, none⟩) := hn 3 (by decide)
        clear hn hg
        refine .inl ⟨trivial, ?_⟩
        refine .inl ⟨.pointer (some ⟨gx, 1, none⟩), W, ?_, rfl, Below.refl _ _⟩
        go_simp
      refine And.intro ?_ ?_
      · intro d hd ρ W hcs bw hn hg
        cases hd
        have e36 : ρ (.tmp 36) = .pointer (some ⟨gx, 1, none⟩) := hn 36 (by decide)
        clear hn hg
        refine .inl ⟨trivial, ?_⟩
        have z0 := (kxd.below bw kxd.lt).cell 1
        refine .inl ⟨.int .u32 (cb : Int), W, ?_, rfl, Below.refl _ _⟩
        go_simp
      refine And.intro ?_ ?_
      · intro d hd ρ W hcs bw hn hg
        cases hd
        have e35 : ρ (.tmp 35) = .int .u32 (xq : Int) := hn 35 (by decide)
        have e37 : ρ (.tmp 37) = .int .u32 (cb : Int) := hn 37 (by decide)
        clear hn hg
        refine .inl ⟨trivial, ?_⟩
        refine .inl ⟨.bool false, W, ?_, rfl, Below.refl _ _⟩
        go_simp
      trivial
    intro a' w' hsz hdf hb hVs
    have q38 : a'.eval (.tmp 38) = .bool false := hVs 38
    have ha := slot_over_seg 28 11 [] rfl (by kernel_rfl) (of_decide_eq_true (by kernel_rfl)) hsz hdf hVs
    clear hVs hsz hdf
    rw [show List.range' 28 11 = [28, 29, 30, 31, 32, 33, 34, 35, 36, 37, 38] from rfl] at ha
    simp only [List.take_succ_cons, List.take_zero, List.drop_succ_cons, List.drop_zero, List.map_cons, List.map_nil, List.cons_append, List.nil_append, List.foldl_cons, List.foldl_nil, List.set_cons_zero, List.set_cons_succ, q38] at ha
    clear q38
    generalize a'.eval (.tmp 28) = x28 at ha
    generalize a'.eval (.tmp 29) = x29 at ha
    generalize a'.eval (.tmp 30) = x30 at ha
    generalize a'.eval (.tmp 31) = x31 at ha
    generalize a'.eval (.tmp 32) = x32 at ha
    generalize a'.eval (.tmp 33) = x33 at ha
    generalize a'.eval (.tmp 34) = x34 at ha
    generalize a'.eval (.tmp 35) = x35 at ha
    generalize a'.eval (.tmp 36) = x36 at ha
    generalize a'.eval (.tmp 37) = x37 at ha
    subst ha
    obtain ⟨w5, hw5⟩ : ∃ w5 : World, w5 = w' := ⟨_, rfl⟩
    rw [← hw5] at hb ⊢
    clear hw5
    have hgd5 := hgd.below hb hgd.lt
    have kxd5 := kxd.below hb kxd.lt
    have HB5 := Lib.hid (HB4.out.drew.trans (hb.mono HB4.out.drew.size))
    have HO5 := Lib.hid (own_below (w := w4.drew) (h0 := w4.drew.heap.size) HO4.out hb (fun q hq => (HO4.out.lt q hq).2))
    have g5 : w5.cell? ⟨g, 0, none⟩ = some (.slice (some ad) n c0) := hgd5.cell 0
    have hwi : IntKind.i64.wrap ((i : Int) + 1) = (i : Int) + 1 := by rw [IntKind.wrap_i64]; have := HIL.out; omega
    have HD : Hid (Calls Try.prog 55 #[.slice (some ad) n c0, .int .i64 (i : Int), .int .i64 ((i : Int) + 1)] w5 fun e w' => e = .returned (.slice (some ⟨r, 0, none⟩) (n - 1) c0) ∧
      w'.ownsRow B 36 7 (.slice (some ⟨r, 0, none⟩) (n - 1) c0) (n - 1) ((l.eraseIdx i).flatMap cmL) ∧ w5.grownBy w' (some r)) := by
        have h5 := HO5.out
        rw [HV9.out, ← HN.out] at h5
        rw [HHD.out]
        exact delete_any l n c0 r i B HN.out (by rw [HN.out]; exact HIL.out) w5 h5 (by have := HN.out; omega)
    have HK5 := Lib.hid kxd5
    have HG5 := Lib.hid hgd5
    clear hgd kxd c1d b0 hb hgd5 kxd5 HO3 HG3 HB3 HO4 HB4
    go_wp2_with fail
    refine HD.out.mono ?_; rintro e w6 ⟨rfl, ho6, hg6⟩
    have kx6 := HK5.out.grown hg6 (fun he => hrx2 (Option.some.inj he).symm)
    obtain ⟨w7, hst7, hg7, hgr7⟩ := store_q (HG5.out.grown hg6 (fun he => hrg (Option.some.inj he))) (some ⟨r, 0, none⟩) (n - 1) c0
    have kx7 := kx6.grown hgr7 (fun he => hne (Option.some.inj he))
    have hgw : Blk w g 105 #[.slice (some ⟨r, 0, none⟩) n c0] := by have h := HG.out; rw [HV9.out, ← HN.out] at h; exact h
    have how : w.ownsRow B 36 7 (.slice (some ⟨r, 0, none⟩) n c0) n (l.flatMap cmL) := by have h := HO.out; rw [HV9.out, ← HN.out] at h; exact h
    obtain ⟨ho7, hO7⟩ := del_parts HN.out (by rw [HN.out]; exact HIL.out) hgw how HB5.out ho6 hg6 hgr7
    have hel : (l.eraseIdx i).length = n - 1 := by rw [List.length_eraseIdx, ← HN.out, if_pos (by have := HIL.out; have := HN.out; omega)]
    obtain ⟨v', wA, wB, A5, n5, k5, happ, hv', hst, HQ5, kx4, kx5⟩ := HAPP.out w7 (.slice (some ⟨r, 0, none⟩) (n - 1) c0) (l.eraseIdx i) w7.drew (by rw [hel]; have := HN.out; omega) (by have := hO7.size; omega) hg7 ho7 kx7 (fun q hq => by cases hq; exact hrx2) rfl
    subst hv'
    have kx5 := kx5 hne
    have HQ : Hid (QGo w B g v (l.eraseIdx i ++ [⟨ca, cb, ck, cs, ct, cu, cz⟩]) wB) := by
      show QGo _ _ _ _ _ _
      rw [HV9.out, ← HN.out]
      exact QGo.trans hO7 (fun q hq => by cases hq; exact .inl rfl) HQ5
    have hgP := hg7
    have kxP := kx7
    clear hgw how ho7 hO7 hel HQ5 kx6 hg6 ho6 hg7 hgr7 kx7 HAPP g5
    go_upto_region 12 with (refine wpList_store (by rfl) (.tmp 49) (.tmp 47) (by rfl) (by rfl) (by rfl) hst7 ?_)
    have kxd : Blk w7.drew gx 36 #[.int .u8 (ca : Int), .int .u32 (cb : Int), .int .u8 (ck : Int), .string ⟨cs.toArray⟩, .string ⟨ct.toArray⟩, .string ⟨cu.toArray⟩, .int .u8 (cz : Int)] := kxP
    have hgd : Blk w7.drew g 105 #[.slice (some ⟨r, 0, none⟩) (n - 1) c0] := hgP
    have kx1 := kxd.alloc (.cells #[.int .u8 (ca : Int), .int .u32 (cb : Int), .int .u8 (ck : Int), .string ⟨cs.toArray⟩, .string ⟨ct.toArray⟩, .string ⟨cu.toArray⟩, .int .u8 (cz : Int)] 36)
    have hl0 := load_q hgd
    have hl1 := load_q (hgd.alloc (.cells #[.int .u8 (ca : Int), .int .u32 (cb : Int), .int .u8 (ck : Int), .string ⟨cs.toArray⟩, .string ⟨ct.toArray⟩, .string ⟨cu.toArray⟩, .int .u8 (cz : Int)] 36))
    have hls := kxd.lt
    clear hgd hgP kxP
    refine wp_region_held_drew (S := (fun W : World => Blk W gx 36 #[.int .u8 (ca : Int), .int .u32 (cb : Int), .int .u8 (ck : Int), .string ⟨cs.toArray⟩, .string ⟨ct.toArray⟩, .string ⟨cu.toArray⟩, .int .u8 (cz : Int)])) (by kernel_rfl) (kxd) (fun hHeld => ?_)
    refine take1 (i := 0) (d := 50) (v := ?_) rfl (by kernel_rfl) (by kernel_rfl) (by kernel_rfl) rfl (fun _ _ _ h => h) (Or.inl ⟨by rfl, ?_⟩) (by assumption) ?_
    rotate_left
    · (intro w hSw; (try dsimp only at hSw); go_simp); with_reducible rfl
    simp only [List.set_cons_zero, List.set_cons_succ]
    refine take1 (i := 1) (d := 51) (v := ?_) rfl (by kernel_rfl) (by kernel_rfl) (by kernel_rfl) rfl (fun _ _ _ h => h) (Or.inl ⟨by rfl, ?_⟩) (by assumption) ?_
    rotate_left
    · (intro w hSw; (try dsimp only at hSw); go_simp); with_reducible rfl
    simp only [List.set_cons_zero, List.set_cons_succ]
    refine take1 (i := 2) (d := 52) (v := ?_) rfl (by kernel_rfl) (by kernel_rfl) (by kernel_rfl) rfl (fun _ _ _ h => h) (Or.inl ⟨by rfl, ?_⟩) (by assumption) ?_
    rotate_left
    · (intro w hSw; (try dsimp only at hSw); go_simp); with_reducible rfl
    simp only [List.set_cons_zero, List.set_cons_succ]
    refine take1 (i := 3) (d := 53) (v := ?_) rfl (by kernel_rfl) (by kernel_rfl) (by kernel_rfl) rfl (fun _ _ _ h => h) (Or.inl ⟨by rfl, ?_⟩) (by assumption) ?_
    rotate_left
    · (intro w hSw; (try dsimp only at hSw); go_simp); with_reducible rfl
    simp only [List.set_cons_zero, List.set_cons_succ]
    refine take1 (i := 5) (d := 55) (v := ?_) rfl (by kernel_rfl) (by kernel_rfl) (by kernel_rfl) rfl (fun _ _ _ h => h) (Or.inl ⟨by rfl, ?_⟩) (by assumption) ?_
    rotate_left
    · intro w hSw; refine (exec_load (.tmp 3) (by rfl) (by rfl) (blk_load (P := Try.prog) (ty := 36) hSw Try.underlying36 rfl size_cm)).trans ?_; with_reducible rfl
    simp only [List.set_cons_zero, List.set_cons_succ]
    refine wpAnyH_ready (rs := [4, 6]) (by kernel_rfl) (by simp) (AllReadyH.cons rfl (fun Kreg hKreg => ?_) (AllReadyH.cons rfl (fun Kreg hKreg => ?_) AllReadyH.nil))
    · refine step_load (by rfl) (.tmp 53) (by rfl) (by rfl) (by first | exact hl0 | exact hl1) ?_
      refine hKreg.out _ _ ((by first | exact kxd | exact kx1 | exact kx4 | exact kx5)) (fun hHeld => ?_)
      clear hKreg Kreg
      refine wpAnyH_put (d := 54) (by rfl) ?_
      simp only [List.set_cons_zero, List.set_cons_succ]
      refine wpAnyH_ready (rs := [6]) (by kernel_rfl) (by simp) (AllReadyH.cons rfl (fun Kreg hKreg => ?_) AllReadyH.nil)
      refine step_exec (by rfl) (.slice (some ⟨w7.drew.heap.size, 0, none⟩) 1 1) (w7.drew.alloc (.cells #[.int .u8 (ca : Int), .int .u32 (cb : Int), .int .u8 (ck : Int), .string ⟨cs.toArray⟩, .string ⟨ct.toArray⟩, .string ⟨cu.toArray⟩, .int .u8 (cz : Int)] 36)) (by go_simp) ?_
      refine hKreg.out _ _ ((by first | exact kxd | exact kx1 | exact kx4 | exact kx5)) (fun hHeld => ?_)
      clear hKreg Kreg
      refine wpAnyH_put (d := 56) (by rfl) ?_
      simp only [List.set_cons_zero, List.set_cons_succ]
      refine wpAnyH_ready (rs := [7]) (by kernel_rfl) (by simp) (AllReadyH.cons rfl (fun Kreg hKreg => ?_) AllReadyH.nil)
      refine step_run_append (by rfl) (.tmp 54) (.tmp 56) 30 (by rfl) (by rfl) (by rfl) happ ?_
      refine hKreg.out _ _ ((by first | exact kxd | exact kx1 | exact kx4 | exact kx5)) (fun hHeld => ?_)
      clear hKreg Kreg
      refine wpAnyH_put (d := 57) (by rfl) ?_
      simp only [List.set_cons_zero, List.set_cons_succ]
      refine take1 (i := 8) (d := 58) (v := ?_) rfl (by kernel_rfl) (by kernel_rfl) (by kernel_rfl) rfl (fun _ _ _ h => h) (Or.inl ⟨by rfl, ?_⟩) (by assumption) ?_
      rotate_left
      · (intro w hSw; (try dsimp only at hSw); go_simp); with_reducible rfl
      simp only [List.set_cons_zero, List.set_cons_succ]
      refine take1 (i := 9) (d := 59) (v := ?_) rfl (by kernel_rfl) (by kernel_rfl) (by kernel_rfl) rfl (fun _ _ _ h => h) (Or.inl ⟨by rfl, ?_⟩) (by assumption) ?_
      rotate_left
      · (intro w hSw; (try dsimp only at hSw); go_simp); with_reducible rfl
      simp only [List.set_cons_zero, List.set_cons_succ]
      refine wpAnyH_ready (rs := [10]) (by kernel_rfl) (by simp) (AllReadyH.cons rfl (fun Kreg hKreg => ?_) AllReadyH.nil)
      refine step_store (by rfl) (.tmp 59) (.tmp 57) (by rfl) (by rfl) (by rfl) hst ?_
      refine hKreg.out _ _ ((by first | exact kxd | exact kx1 | exact kx4 | exact kx5)) (fun hHeld => ?_)
      clear hKreg Kreg
      try simp only [Act.put, List.setIfInBounds_toArray, List.set_cons_zero, List.set_cons_succ]
      refine wpAnyH_done (by kernel_rfl) ?_ _
      go_wp2_with fail
      go_ret
      exact ⟨rfl, HQ.out⟩
    · refine step_exec (by rfl) (.slice (some ⟨w7.drew.heap.size, 0, none⟩) 1 1) (w7.drew.alloc (.cells #[.int .u8 (ca : Int), .int .u32 (cb : Int), .int .u8 (ck : Int), .string ⟨cs.toArray⟩, .string ⟨ct.toArray⟩, .string ⟨cu.toArray⟩, .int .u8 (cz : Int)] 36)) (by go_simp) ?_
      refine hKreg.out _ _ ((by first | exact kxd | exact kx1 | exact kx4 | exact kx5)) (fun hHeld => ?_)
      clear hKreg Kreg
      refine wpAnyH_put (d := 56) (by rfl) ?_
      simp only [List.set_cons_zero, List.set_cons_succ]
      refine wpAnyH_ready (rs := [4]) (by kernel_rfl) (by simp) (AllReadyH.cons rfl (fun Kreg hKreg => ?_) AllReadyH.nil)
      refine step_load (by rfl) (.tmp 53) (by rfl) (by rfl) (by first | exact hl0 | exact hl1) ?_
      refine hKreg.out _ _ ((by first | exact kxd | exact kx1 | exact kx4 | exact kx5)) (fun hHeld => ?_)
      clear hKreg Kreg
      refine wpAnyH_put (d := 54) (by rfl) ?_
      simp only [List.set_cons_zero, List.set_cons_succ]
      refine wpAnyH_ready (rs := [7]) (by kernel_rfl) (by simp) (AllReadyH.cons rfl (fun Kreg hKreg => ?_) AllReadyH.nil)
      refine step_run_append (by rfl) (.tmp 54) (.tmp 56) 30 (by rfl) (by rfl) (by rfl) happ ?_
      refine hKreg.out _ _ ((by first | exact kxd | exact kx1 | exact kx4 | exact kx5)) (fun hHeld => ?_)
      clear hKreg Kreg
      refine wpAnyH_put (d := 57) (by rfl) ?_
      simp only [List.set_cons_zero, List.set_cons_succ]
      refine take1 (i := 8) (d := 58) (v := ?_) rfl (by kernel_rfl) (by kernel_rfl) (by kernel_rfl) rfl (fun _ _ _ h => h) (Or.inl ⟨by rfl, ?_⟩) (by assumption) ?_
      rotate_left
      · (intro w hSw; (try dsimp only at hSw); go_simp); with_reducible rfl
      simp only [List.set_cons_zero, List.set_cons_succ]
      refine take1 (i := 9) (d := 59) (v := ?_) rfl (by kernel_rfl) (by kernel_rfl) (by kernel_rfl) rfl (fun _ _ _ h => h) (Or.inl ⟨by rfl, ?_⟩) (by assumption) ?_
      rotate_left
      · (intro w hSw; (try dsimp only at hSw); go_simp); with_reducible rfl
      simp only [List.set_cons_zero, List.set_cons_succ]
      refine wpAnyH_ready (rs := [10]) (by kernel_rfl) (by simp) (AllReadyH.cons rfl (fun Kreg hKreg => ?_) AllReadyH.nil)
      refine step_store (by rfl) (.tmp 59) (.tmp 57) (by rfl) (by rfl) (by rfl) hst ?_
      refine hKreg.out _ _ ((by first | exact kxd | exact kx1 | exact kx4 | exact kx5)) (fun hHeld => ?_)
      clear hKreg Kreg
      try simp only [Act.put, List.setIfInBounds_toArray, List.set_cons_zero, List.set_cons_succ]
      refine wpAnyH_done (by kernel_rfl) ?_ _
      go_wp2_with fail
      go_ret
      exact ⟨rfl, HQ.out⟩

end Go.Proofs.Ytgpdggojajjppaa.Bat
