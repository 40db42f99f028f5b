/- The law BatchDone walked. Conditions: the arguments can be read. -/
import Derived.Test.YtgpdggojajjppaaBatPlaysL
namespace Go.Proofs.Ytgpdggojajjppaa.Bat
open Go.RowKit Wire Cmd DrawInv

/-- Of each client one command waits at most. -/
def Uniq (m : List Cm) : Prop := (m.map (·.client)).Nodup
theorem uniq_erase {m : List Cm} (h : Uniq m) (i : Nat) : Uniq (m.eraseIdx i) := List.Nodup.sublist ((List.eraseIdx_sublist m i).map _) h
theorem uniq_app {m : List Cm} (h : Uniq m) (c : Cm) (hc : ∀ x ∈ m, x.client ≠ c.client) : Uniq (m ++ [c]) := by
  unfold Uniq at *
  rw [List.map_append, List.nodup_append]
  refine ⟨h, by simp, fun a ha b hb => ?_⟩
  obtain ⟨x, hx, rfl⟩ := List.mem_map.1 ha
  simp only [List.map_cons, List.map_nil, List.mem_singleton] at hb
  rw [hb]
  exact hc x hx
theorem uniq_at {m : List Cm} (h : Uniq m) {i j : Nat} {c d : Cm} (hi : m[i]? = some c) (hj : m[j]? = some d) (he : c.client = d.client) : i = j := by
  unfold Uniq at h
  have h1 : (m.map (·.client))[i]? = some c.client := by rw [List.getElem?_map, hi]; rfl
  have h2 : (m.map (·.client))[j]? = some c.client := by rw [List.getElem?_map, hj, he]; rfl
  have hl : i < (m.map (·.client)).length := (List.getElem?_eq_some_iff.1 h1).1
  exact (List.getElem?_inj hl h).1 (h1.trans h2.symm)
theorem mem_erase {m : List Cm} {i : Nat} {x : Cm} (h : x ∈ m.eraseIdx i) : ∃ j, j ≠ i ∧ m[j]? = some x := by
  obtain ⟨j, hj⟩ := List.getElem?_of_mem h
  rw [List.getElem?_eraseIdx] at hj
  split at hj
  · exact ⟨j, by omega, hj⟩
  · exact ⟨j + 1, by omega, hj⟩
theorem uniq_put {m : List Cm} (h : Uniq m) (c : Cm) : Uniq (putQ m c).1 := by
  unfold putQ
  split
  · exact h
  · split
    · rename_i hf
      exact uniq_app h c (find_none hf)
    · rename_i i hf
      split
      · exact h
      · split
        · exact h
        · split
          · exact h
          · obtain ⟨d, hd, hdc⟩ := find_at hf
            refine uniq_app (uniq_erase h i) c (fun x hx he => ?_)
            obtain ⟨j, hji, hj⟩ := mem_erase hx
            exact hji (uniq_at h hj hd (by rw [he, hdc]))
theorem filter_erase {p : Cm → Bool} : ∀ {m : List Cm} {i : Nat} {d : Cm}, m[i]? = some d → p d = false → (∀ (j : Nat) (x : Cm), j ≠ i → m[j]? = some x → p x = true) → m.eraseIdx i = m.filter p
  | [], i, d, h, _, _ => by simp at h
  | x :: m, 0, d, h, hp, ho => by
    simp at h
    subst h
    rw [List.eraseIdx_cons_zero, List.filter_cons_of_neg (by simp [hp])]
    exact (List.filter_eq_self.2 fun y hy => by
      obtain ⟨j, hj⟩ := List.getElem?_of_mem hy
      exact ho (j + 1) y (by omega) hj).symm
  | x :: m, i + 1, d, h, hp, ho => by
    rw [List.eraseIdx_cons_succ, List.filter_cons_of_pos (ho 0 x (by omega) rfl), filter_erase (by simpa using h) hp (fun j y hj hy => ho (j + 1) y (by omega) (by simpa using hy))]
/-- What goes on waiting behind Done. -/
def stays (k s : Nat) (c : Cm) : Bool := !(decide (c.client = k) && decide (c.seq ≤ s))
theorem done_filter {m : List Cm} (h : Uniq m) (k s : Nat) : doneQ m k s = m.filter (stays k s) := by
  unfold doneQ
  split
  · rename_i hf
    exact (List.filter_eq_self.2 fun x hx => by
      have := find_none hf x hx
      unfold stays
      simp [this]).symm
  · rename_i i hf
    obtain ⟨d, hd, hdc⟩ := find_at hf
    rw [hd]
    simp only
    have hoth : ∀ (j : Nat) (x : Cm), j ≠ i → m[j]? = some x → stays k s x = true := fun j x hj hx => by
      have : x.client ≠ k := fun e => hj (uniq_at h hx hd (by rw [e, hdc]))
      unfold stays
      simp [this]
    split
    · rename_i hs
      exact filter_erase hd (by unfold stays; simp [hdc, hs]) hoth
    · rename_i hs
      exact (List.filter_eq_self.2 fun x hx => by
        obtain ⟨j, hj⟩ := List.getElem?_of_mem hx
        by_cases hji : j = i
        · subst hji
          rw [hd] at hj
          cases hj
          unfold stays
          simp [hs]
        · exact hoth j x hji hj).symm
theorem kept_succ {p : Cm → Bool} {m : List Cm} {i : Nat} {x : Cm} (hx : m[i]? = some x) : ((m.take (i + 1)).filter p).length = ((m.take i).filter p).length + (if p x = true then 1 else 0) := by
  rw [List.take_add_one, hx, List.filter_append]
  simp [List.filter_cons]
  split <;> simp
theorem kept_at {p : Cm → Bool} {m : List Cm} {i : Nat} {x : Cm} (hx : m[i]? = some x) (hp : p x = true) : (m.filter p)[((m.take i).filter p).length]? = some x := by
  have hi : i < m.length := (List.getElem?_eq_some_iff.1 hx).1
  have e : m = m.take i ++ x :: m.drop (i + 1) := by
    have h2 := List.drop_eq_getElem_cons hi
    have h3 : m[i] = x := by rw [List.getElem?_eq_getElem hi] at hx; exact Option.some.inj hx
    rw [h3] at h2
    rw [← h2, List.take_append_drop]
  have e2 : m.filter p = (m.take i).filter p ++ x :: (m.drop (i + 1)).filter p := by
    conv => lhs; rw [e]
    rw [List.filter_append, List.filter_cons_of_pos hp]
  rw [e2, List.getElem?_append_right (Nat.le_refl _), Nat.sub_self]
  rfl
set_option linter.unusedSimpArgs false in
set_option linter.unusedVariables false in
set_option maxRecDepth 100000 in
set_option maxHeartbeats 2000000 in
theorem bdone_any (l : List Ba) (ln : Nat) (hln : ln = l.length) (hQ : ∀ x ∈ l, x.Fits) (hl : ln ≤ 9223372036854775807) (A0 : Option Addr) (c0 cl sq : Nat) (w : World) (hA0 : Rows w A0 9 baC l) :
    Calls Try.prog 10 #[.slice A0 ln c0, .int .u8 (cl : Int), .int .u32 (sq : Int)] w fun e w' => e = .returned (.bool true) ∧ Below w.heap.size w w' := by
  have HG := Lib.hid (fun W h => bgreat_any l ln hln hl A0 c0 W h)
  have HLN := Lib.hid hln
  clear hln
  go_enter Try.func10, Try.ntmps10
  go_wp2_with fail
  refine (HG.out w hA0).mono ?_; rintro e w1 ⟨he, B1⟩
  have bw := B1
  clear B1 HG
  cases he
  · go_wp2_with fail
    refine (wakes_any _).mono ?_; rintro e w2 ⟨rfl, B2⟩
    have bz := bw.trans (B2.mono bw.size)
    go_wp2_with fail
    go_ret
    exact ⟨rfl, bz⟩
  rename_i h200
  have H2 := Lib.hid h200
  clear h200
  go_wp2_with fail
  refine (new_q w1).mono ?_; rintro e w2 ⟨g, rfl, q0, B2⟩
  obtain ⟨B, hB⟩ : ∃ B, B = w1.heap.size := ⟨_, rfl⟩
  rw [← hB] at q0
  have HBB : Hid (w.heap.size ≤ B) := by show _ ≤ _; rw [hB]; exact bw.size
  have HBW : Hid (B ≤ w2.heap.size) := by show _ ≤ _; rw [hB]; exact B2.size
  have bw := bw.trans (B2.mono bw.size)
  clear hB B2
  go_wp2_with fail
  go_loopg [8] ln (fun gk v8 wr => ∃ (k : Nat) (m : List Cm) (v : Value), k + gk = ln ∧ v8 = .int .i64 (k : Int) ∧ Hid (m.length ≤ k) ∧ Hid (Uniq m) ∧ QS B g m v wr ∧ Below w.heap.size w wr ∧ B ≤ wr.heap.size)
  case atStart => exact ⟨0, [], _, by omega, rfl, Nat.le_refl _, List.nodup_nil, q0, bw, HBW.out⟩
  case round =>
    clear q0 bw HBW
    obtain ⟨k, m, v, hk, rfl, HMK, HU, q, bw, hBr⟩ := hrel
    have HM : Hid (m.length ≤ 300) := by show _ ≤ _; have := HMK.out; have := H2.out; omega
    by_cases h4 : k < ln
    · have hk4 : (k : Int) < (ln : Int) := by omega
      obtain ⟨a0, ha⟩ : ∃ x, l[k]? = some x := ⟨_, List.getElem?_eq_getElem (by rw [← HLN.out]; exact h4)⟩
      have haf := hQ a0 (List.mem_of_getElem? ha)
      obtain ⟨ad, rfl, hadl, z0, z1⟩ := hA0.at_ ha
      have hadb : (ad.add (k * 9)).block < w.heap.size := by rw [block_of_add]; exact hadl
      obtain ⟨xd, xn, ⟨xa, xb, xk, xs, xt, xu, xz⟩⟩ := a0
      have HC := Lib.hid haf.h3
      have ld0 : wr.cell? (ad.add (k * 9)) = some (.int .u8 (xd : Int)) := (bw.cell hadb).trans (z0 _ rfl)
      have ld2 : wr.cell? { block := (ad.add (k * 9)).block, off := (ad.add (k * 9)).off + 2 } = some (.int .u8 (xa : Int)) := (bw.cell (by exact hadb)).trans (z1 1 _ rfl)
      have ld3 : wr.cell? { block := (ad.add (k * 9)).block, off := (ad.add (k * 9)).off + 3 } = some (.int .u32 (xb : Int)) := (bw.cell (by exact hadb)).trans (z1 2 _ rfl)
      have ld4 : wr.cell? { block := (ad.add (k * 9)).block, off := (ad.add (k * 9)).off + 4 } = some (.int .u8 (xk : Int)) := (bw.cell (by exact hadb)).trans (z1 3 _ rfl)
      have ld5 : wr.cell? { block := (ad.add (k * 9)).block, off := (ad.add (k * 9)).off + 5 } = some (.string ⟨xs.toArray⟩) := (bw.cell (by exact hadb)).trans (z1 4 _ rfl)
      have ld6 : wr.cell? { block := (ad.add (k * 9)).block, off := (ad.add (k * 9)).off + 6 } = some (.string ⟨xt.toArray⟩) := (bw.cell (by exact hadb)).trans (z1 5 _ rfl)
      have ld7 : wr.cell? { block := (ad.add (k * 9)).block, off := (ad.add (k * 9)).off + 7 } = some (.string ⟨xu.toArray⟩) := (bw.cell (by exact hadb)).trans (z1 6 _ rfl)
      have ld8 : wr.cell? { block := (ad.add (k * 9)).block, off := (ad.add (k * 9)).off + 8 } = some (.int .u8 (xz : Int)) := (bw.cell (by exact hadb)).trans (z1 7 _ rfl)
      have HA0 := Lib.hid hA0
      clear z0 z1 ha haf hA0
      by_cases hd1 : 1 < xd
      · have hd1i : (1 : Int) < (xd : Int) := by omega
        have HP2 := Lib.hid (put_q q hBr (by have := HM.out; omega) ⟨xa, xb, xk, xs, xt, xu, xz⟩ HC.out)
        have hpl := putQ_len m ⟨xa, xb, xk, xs, xt, xu, xz⟩
        have hpu := uniq_put HU.out ⟨xa, xb, xk, xs, xt, xu, xz⟩
        generalize putQ m ⟨xa, xb, xk, xs, xt, xu, xz⟩ = pq at *
        obtain ⟨m', pe⟩ := pq
        unfold cmV cmC at HP2
        dsimp only at HP2 hpl hpu
        have HPU := Lib.hid (And.intro hpl hpu)
        clear hpl hpu
        go_wp2_with fail
        refine HP2.out.mono ?_; rintro e w4 ⟨rfl, v', q', s⟩
        have bw := s.bw2 q bw HBB.out hBr
        have hBr := Nat.le_trans hBr s.out.size
        clear ld0 ld2 ld3 ld4 ld5 ld6 ld7 ld8 HP2 s q
        go_wp2_with fail
        go_roundg (ln - (k + 1))
        case measure => omega
        case rel => exact ⟨k + 1, m', v', by omega, by go_num, (by show _ ≤ _; have := HMK.out; have := HPU.out.1; omega), HPU.out.2, q', bw, hBr⟩
      · have hd1i : ¬ (1 : Int) < (xd : Int) := by omega
        have HMK2 : Hid (m.length ≤ k + 1) := Nat.le_succ_of_le HMK.out
        clear ld2 ld3 ld4 ld5 ld6 ld7 ld8 HC
        go_wp2_with fail
        go_roundg (ln - (k + 1))
        case measure => omega
        case rel => exact ⟨k + 1, m, v, by omega, by go_num, HMK2, HU, q, bw, hBr⟩
    · have hk4 : ¬ (k : Int) < (ln : Int) := by omega
      go_wp2_with fail
      refine (all_q q hBr (by have := HM.out; omega)).mono ?_; rintro e w3 ⟨u, rfl, lu, uu, _, B3⟩
      have bw := bw.trans (B3.mono bw.size)
      have hBr := Nat.le_trans hBr B3.size
      have q := q.below B3
      clear B3
      go_wp2_with fail
      refine (done_q q (by have := HM.out; omega) cl sq).mono ?_; rintro e w4 ⟨⟨ud, rfl⟩, v', q', s⟩
      have lu := lu.step s uu
      have bw := s.bw2 q bw HBB.out hBr
      have hBr := Nat.le_trans hBr s.out.size
      have q := q'
      have hdl := doneQ_len m cl sq
      have HF := Lib.hid (done_filter HU.out cl sq)
      generalize doneQ m cl sq = m2 at *
      clear q' s uu
      go_wp2_with fail
      refine (all_q q hBr (by have := HM.out; omega)).mono ?_; rintro e w5 ⟨u2, rfl, lu2, _, _, B5⟩
      have lu := lu.below B5
      have bw := bw.trans (B5.mono bw.size)
      clear B5 q hBr
      obtain ⟨A1, c1, hu1, r1, _⟩ := lu.slice
      obtain ⟨A2, c2, hu2, r2, _⟩ := lu2.slice
      obtain ⟨n, hn⟩ : ∃ n, m.length = n := ⟨_, rfl⟩
      obtain ⟨n2, hn2⟩ : ∃ n, m2.length = n := ⟨_, rfl⟩
      rw [hn] at hu1
      rw [hn2] at hu2
      subst hu1 hu2
      have hn3 : n ≤ 300 := by rw [← hn]; exact HM.out
      have hn4 : n2 ≤ n := by rw [← hn, ← hn2]; exact hdl
      have HN := Lib.hid (And.intro hn hn2)
      have HR := Lib.hid (And.intro r1 r2)
      clear lu lu2 hn hn2 hdl r1 r2
      obtain ⟨wu, hwu⟩ : ∃ wu : World, wu = w5 := ⟨_, rfl⟩
      rw [← hwu] at bw HR ⊢
      clear hwu
      go_wp2_with fail
      go_loopg [11, 12] n (fun gk v11 v12 wz => ∃ (i j : Nat), i + gk = n ∧ v12 = .int .i64 (i : Int) ∧ v11 = .int .i64 (j : Int) ∧ Hid (j = ((m.take i).filter (stays cl sq)).length) ∧ Below wu.heap.size wu wz)
      case atStart => exact ⟨0, 0, by omega, rfl, rfl, (by show _ = _; simp), Below.refl _ _⟩
      case round =>
        obtain ⟨i, j, hi, rfl, rfl, HJ, bz⟩ := hrel
        by_cases h5 : i < n
        · have hk5 : (i : Int) < (n : Int) := by omega
          obtain ⟨x, hx⟩ : ∃ x, m[i]? = some x := ⟨_, List.getElem?_eq_getElem (by rw [HN.out.1]; exact h5)⟩
          obtain ⟨bd, rfl, hbdl, z0, z1⟩ := HR.out.1.at_ hx
          have hbdb : (bd.add (i * 7)).block < wu.heap.size := by rw [block_of_add]; exact hbdl
          by_cases hcl : x.client = cl ∧ x.seq ≤ sq
          · have HJ2 : Hid (j = ((m.take (i + 1)).filter (stays cl sq)).length) := by
              show _ = _
              rw [kept_succ hx, ← HJ.out]
              simp [stays, hcl.1, hcl.2]
            have q0 : wr.cell? (bd.add (i * 7)) = some (.int .u8 (x.client : Int)) := (bz.cell hbdb).trans (z0 _ rfl)
            have q1 : wr.cell? { block := (bd.add (i * 7)).block, off := (bd.add (i * 7)).off + 1 } = some (.int .u32 (x.seq : Int)) := (bz.cell (by exact hbdb)).trans (z1 0 _ rfl)
            have e1 : ((x.client : Int) == (cl : Int)) = true := by rw [hcl.1]; simp
            have e2 : (x.seq : Int) ≤ (sq : Int) := by have := hcl.2; omega
            clear z0 z1 hx hcl
            go_wp2_with fail
            go_roundg (n - (i + 1))
            case measure => omega
            case rel => exact ⟨i + 1, j, by omega, by go_num, rfl, HJ2, bz⟩
          · have hst : stays cl sq x = true := by
              unfold stays
              by_cases h : x.client = cl
              · have h2 : decide (x.seq ≤ sq) = false := decide_eq_false fun h2 => hcl ⟨h, h2⟩
                rw [h2, Bool.and_false]; rfl
              · rw [decide_eq_false h]; rfl
            have hat := kept_at hx hst
            rw [← HF.out, ← HJ.out] at hat
            have hj2 : j < n2 := by rw [← HN.out.2]; exact (List.getElem?_eq_some_iff.1 hat).1
            obtain ⟨ad, rfl, hadl, y0, y1⟩ := HR.out.2.at_ hat
            have hadb : (ad.add (j * 7)).block < wu.heap.size := by rw [block_of_add]; exact hadl
            have HJ2 : Hid (j + 1 = ((m.take (i + 1)).filter (stays cl sq)).length) := by
              show _ = _
              rw [kept_succ hx, ← HJ.out, if_pos hst]
            have e1 : ((x.client : Int) == (cl : Int)) = decide (x.client = cl) := by
              by_cases h : x.client = cl
              · rw [decide_eq_true h, h]; simp
              · rw [decide_eq_false h]; exact beq_eq_false_iff_ne.2 (by omega)
            have hk6 : (j : Int) < (n2 : Int) := by omega
            have hk7 : ¬ (n2 : Int) ≤ (j : Int) := by omega
            obtain ⟨xa, xb, xk, xs, xt, xu, xz⟩ := x
            dsimp only at hcl e1
            have q0 : wr.cell? (bd.add (i * 7)) = some (.int .u8 (xa : Int)) := (bz.cell hbdb).trans (z0 _ rfl)
            have q1 : wr.cell? { block := (bd.add (i * 7)).block, off := (bd.add (i * 7)).off + 1 } = some (.int .u32 (xb : Int)) := (bz.cell (by exact hbdb)).trans (z1 0 _ rfl)
            have e2 : xa = cl → ¬ (xb : Int) ≤ (sq : Int) := fun h h2 => hcl ⟨h, by omega⟩
            have HY := Lib.hid (And.intro (And.intro (y0 _ rfl) (fun a b c => y1 a b c)) (And.intro (z0 _ rfl) (fun a b c => z1 a b c)))
            by_cases h6 : xa = cl
            · rw [decide_eq_true h6] at e1
              have e2 := e2 h6
              clear hcl hx hat hst z0 z1 y0 y1 h6
              go_upto_region 17 with fail
              clear q0 q1 e1 e2
              refine region_inv2 (by kernel_rfl) [] [(66, .int .i64 (j : Int)), (67, .slice (some ad) n2 c2), (68, .int .i64 (n2 : Int)), (69, .bool false), (70, .bool false), (71, .slice (some ad) n2 c2), (72, .int .i64 (j : Int)), (73, .pointer (some (ad.add (j * 7)))), (74, .agg #[.int .u8 (xa : Int), .int .u32 (xb : Int), .int .u8 (xk : Int), .string ⟨xs.toArray⟩, .string ⟨xt.toArray⟩, .string ⟨xu.toArray⟩, .int .u8 (xz : Int)]), (75, .slice (some bd) n c1), (76, .int .i64 (i : Int)), (77, .pointer (some (bd.add (i * 7)))), (78, .agg #[.int .u8 (xa : Int), .int .u32 (xb : Int), .int .u8 (xk : Int), .string ⟨xs.toArray⟩, .string ⟨xt.toArray⟩, .string ⟨xu.toArray⟩, .int .u8 (xz : Int)]), (79, .bool false), (80, .bool false)] (by kernel_rfl) (by kernel_rfl) rfl (by kernel_rfl) ?_ ?_ ?_
              · intro q hq; cases hq
              · refine And.intro ?_ ?_
                · intro d hd ρ W hcs bw hn hg
                  cases hd
                  have e11 : ρ (.tmp 11) = .int .i64 (j : Int) := hn 11 (by decide)
                  clear hn hg; have bz2 : Below wu.heap.size wu W := bz.drew.trans (bw.mono bz.drew.size)
                  refine .inl ⟨trivial, ?_⟩
                  refine .inl ⟨_, W, rfl, e11, Below.refl _ _⟩
                refine And.intro ?_ ?_
                · intro d hd ρ W hcs bw hn hg
                  cases hd
                  have e10 : ρ (.tmp 10) = .slice (some ad) n2 c2 := hn 10 (by decide)
                  clear hn hg; have bz2 : Below wu.heap.size wu W := bz.drew.trans (bw.mono bz.drew.size)
                  refine .inl ⟨trivial, ?_⟩
                  refine .inl ⟨_, W, rfl, e10, Below.refl _ _⟩
                refine And.intro ?_ ?_
                · intro d hd ρ W hcs bw hn hg
                  cases hd
                  have e67 : ρ (.tmp 67) = .slice (some ad) n2 c2 := hn 67 (by decide)
                  clear hn hg; have bz2 : Below wu.heap.size wu W := bz.drew.trans (bw.mono bz.drew.size)
                  refine .inl ⟨trivial, ?_⟩
                  refine .inl ⟨.int .i64 (n2 : Int), W, ?_, rfl, Below.refl _ _⟩
                  go_simp
                refine And.intro ?_ ?_
                · intro d hd ρ W hcs bw hn hg
                  cases hd
                  have e66 : ρ (.tmp 66) = .int .i64 (j : Int) := hn 66 (by decide)
                  have e68 : ρ (.tmp 68) = .int .i64 (n2 : Int) := hn 68 (by decide)
                  clear hn hg; have bz2 : Below wu.heap.size wu W := bz.drew.trans (bw.mono bz.drew.size)
                  refine .inl ⟨trivial, ?_⟩
                  refine .inl ⟨.bool false, W, ?_, rfl, Below.refl _ _⟩
                  go_simp
                refine And.intro ?_ ?_
                · intro d hd ρ W hcs bw hn hg
                  cases hd
                  have e69 : ρ (.tmp 69) = .bool false := hn 69 (by decide)
                  clear hn hg; have bz2 : Below wu.heap.size wu W := bz.drew.trans (bw.mono bz.drew.size)
                  refine .inl ⟨trivial, ?_⟩
                  refine .inl ⟨_, W, rfl, e69, Below.refl _ _⟩
                refine And.intro ?_ ?_
                · intro d hd ρ W hcs bw hn hg
                  cases hd
                  have eg : ρ (.tmp 70) = .bool false := hg _ _ _ _ rfl rfl rfl
                  have e10 : ρ (.tmp 10) = .slice (some ad) n2 c2 := hn 10 (by decide)
                  clear hn hg; have bz2 : Below wu.heap.size wu W := bz.drew.trans (bw.mono bz.drew.size)
                  refine .inl ⟨⟨_, _, rfl, rfl, eg⟩, ?_⟩
                  refine .inl ⟨_, W, rfl, e10, Below.refl _ _⟩
                refine And.intro ?_ ?_
                · intro d hd ρ W hcs bw hn hg
                  cases hd
                  have eg : ρ (.tmp 70) = .bool false := hg _ _ _ _ rfl rfl rfl
                  have e11 : ρ (.tmp 11) = .int .i64 (j : Int) := hn 11 (by decide)
                  clear hn hg; have bz2 : Below wu.heap.size wu W := bz.drew.trans (bw.mono bz.drew.size)
                  refine .inl ⟨⟨_, _, rfl, rfl, eg⟩, ?_⟩
                  refine .inl ⟨_, W, rfl, e11, Below.refl _ _⟩
                refine And.intro ?_ ?_
                · intro d hd ρ W hcs bw hn hg
                  cases hd
                  have eg : ρ (.tmp 70) = .bool false := hg _ _ _ _ rfl rfl rfl
                  have e71 : ρ (.tmp 71) = .slice (some ad) n2 c2 := hn 71 (by decide)
                  have e72 : ρ (.tmp 72) = .int .i64 (j : Int) := hn 72 (by decide)
                  clear hn hg; have bz2 : Below wu.heap.size wu W := bz.drew.trans (bw.mono bz.drew.size)
                  refine .inl ⟨⟨_, _, rfl, rfl, eg⟩, ?_⟩
                  refine .inl ⟨.pointer (some (ad.add (j * 7))), W, ?_, rfl, Below.refl _ _⟩
                  go_simp
                refine And.intro ?_ ?_
                · intro d hd ρ W hcs bw hn hg
                  cases hd
                  have eg : ρ (.tmp 70) = .bool false := hg _ _ _ _ rfl rfl rfl
                  have e73 : ρ (.tmp 73) = .pointer (some (ad.add (j * 7))) := hn 73 (by decide)
                  clear hn hg; have bz2 : Below wu.heap.size wu W := bz.drew.trans (bw.mono bz.drew.size)
                  refine .inl ⟨⟨_, _, rfl, rfl, eg⟩, ?_⟩
                  have z0 : W.cell? (ad.add (j * 7)) = some (.int .u8 (xa : Int)) := (bz2.cell (by exact hadb)).trans (HY.out.1.1)
                  have z1 : W.cell? { block := (ad.add (j * 7)).block, off := (ad.add (j * 7)).off + 1 } = some (.int .u32 (xb : Int)) := (bz2.cell (by exact hadb)).trans (HY.out.1.2 0 _ rfl)
                  have z2 : W.cell? { block := (ad.add (j * 7)).block, off := (ad.add (j * 7)).off + 2 } = some (.int .u8 (xk : Int)) := (bz2.cell (by exact hadb)).trans (HY.out.1.2 1 _ rfl)
                  have z3 : W.cell? { block := (ad.add (j * 7)).block, off := (ad.add (j * 7)).off + 3 } = some (.string ⟨xs.toArray⟩) := (bz2.cell (by exact hadb)).trans (HY.out.1.2 2 _ rfl)
                  have z4 : W.cell? { block := (ad.add (j * 7)).block, off := (ad.add (j * 7)).off + 4 } = some (.string ⟨xt.toArray⟩) := (bz2.cell (by exact hadb)).trans (HY.out.1.2 3 _ rfl)
                  have z5 : W.cell? { block := (ad.add (j * 7)).block, off := (ad.add (j * 7)).off + 5 } = some (.string ⟨xu.toArray⟩) := (bz2.cell (by exact hadb)).trans (HY.out.1.2 4 _ rfl)
                  have z6 : W.cell? { block := (ad.add (j * 7)).block, off := (ad.add (j * 7)).off + 6 } = some (.int .u8 (xz : Int)) := (bz2.cell (by exact hadb)).trans (HY.out.1.2 5 _ rfl)
                  refine .inl ⟨.agg #[.int .u8 (xa : Int), .int .u32 (xb : Int), .int .u8 (xk : Int), .string ⟨xs.toArray⟩, .string ⟨xt.toArray⟩, .string ⟨xu.toArray⟩, .int .u8 (xz : Int)], W, ?_, rfl, Below.refl _ _⟩
                  go_simp
                refine And.intro ?_ ?_
                · intro d hd ρ W hcs bw hn hg
                  cases hd
                  have eg : ρ (.tmp 70) = .bool false := hg _ _ _ _ rfl rfl rfl
                  have e9 : ρ (.tmp 9) = .slice (some bd) n c1 := hn 9 (by decide)
                  clear hn hg; have bz2 : Below wu.heap.size wu W := bz.drew.trans (bw.mono bz.drew.size)
                  refine .inl ⟨⟨_, _, rfl, rfl, eg⟩, ?_⟩
                  refine .inl ⟨_, W, rfl, e9, Below.refl _ _⟩
                refine And.intro ?_ ?_
                · intro d hd ρ W hcs bw hn hg
                  cases hd
                  have eg : ρ (.tmp 70) = .bool false := hg _ _ _ _ rfl rfl rfl
                  have e12 : ρ (.tmp 12) = .int .i64 (i : Int) := hn 12 (by decide)
                  clear hn hg; have bz2 : Below wu.heap.size wu W := bz.drew.trans (bw.mono bz.drew.size)
                  refine .inl ⟨⟨_, _, rfl, rfl, eg⟩, ?_⟩
                  refine .inl ⟨_, W, rfl, e12, Below.refl _ _⟩
                refine And.intro ?_ ?_
                · intro d hd ρ W hcs bw hn hg
                  cases hd
                  have eg : ρ (.tmp 70) = .bool false := hg _ _ _ _ rfl rfl rfl
                  have e75 : ρ (.tmp 75) = .slice (some bd) n c1 := hn 75 (by decide)
                  have e76 : ρ (.tmp 76) = .int .i64 (i : Int) := hn 76 (by decide)
                  clear hn hg; have bz2 : Below wu.heap.size wu W := bz.drew.trans (bw.mono bz.drew.size)
                  refine .inl ⟨⟨_, _, rfl, rfl, eg⟩, ?_⟩
                  refine .inl ⟨.pointer (some (bd.add (i * 7))), W, ?_, rfl, Below.refl _ _⟩
                  go_simp
                refine And.intro ?_ ?_
                · intro d hd ρ W hcs bw hn hg
                  cases hd
                  have eg : ρ (.tmp 70) = .bool false := hg _ _ _ _ rfl rfl rfl
                  have e77 : ρ (.tmp 77) = .pointer (some (bd.add (i * 7))) := hn 77 (by decide)
                  clear hn hg; have bz2 : Below wu.heap.size wu W := bz.drew.trans (bw.mono bz.drew.size)
                  refine .inl ⟨⟨_, _, rfl, rfl, eg⟩, ?_⟩
                  have z0 : W.cell? (bd.add (i * 7)) = some (.int .u8 (xa : Int)) := (bz2.cell (by exact hbdb)).trans (HY.out.2.1)
                  have z1 : W.cell? { block := (bd.add (i * 7)).block, off := (bd.add (i * 7)).off + 1 } = some (.int .u32 (xb : Int)) := (bz2.cell (by exact hbdb)).trans (HY.out.2.2 0 _ rfl)
                  have z2 : W.cell? { block := (bd.add (i * 7)).block, off := (bd.add (i * 7)).off + 2 } = some (.int .u8 (xk : Int)) := (bz2.cell (by exact hbdb)).trans (HY.out.2.2 1 _ rfl)
                  have z3 : W.cell? { block := (bd.add (i * 7)).block, off := (bd.add (i * 7)).off + 3 } = some (.string ⟨xs.toArray⟩) := (bz2.cell (by exact hbdb)).trans (HY.out.2.2 2 _ rfl)
                  have z4 : W.cell? { block := (bd.add (i * 7)).block, off := (bd.add (i * 7)).off + 4 } = some (.string ⟨xt.toArray⟩) := (bz2.cell (by exact hbdb)).trans (HY.out.2.2 3 _ rfl)
                  have z5 : W.cell? { block := (bd.add (i * 7)).block, off := (bd.add (i * 7)).off + 5 } = some (.string ⟨xu.toArray⟩) := (bz2.cell (by exact hbdb)).trans (HY.out.2.2 4 _ rfl)
                  have z6 : W.cell? { block := (bd.add (i * 7)).block, off := (bd.add (i * 7)).off + 6 } = some (.int .u8 (xz : Int)) := (bz2.cell (by exact hbdb)).trans (HY.out.2.2 5 _ rfl)
                  refine .inl ⟨.agg #[.int .u8 (xa : Int), .int .u32 (xb : Int), .int .u8 (xk : Int), .string ⟨xs.toArray⟩, .string ⟨xt.toArray⟩, .string ⟨xu.toArray⟩, .int .u8 (xz : Int)], W, ?_, rfl, Below.refl _ _⟩
                  go_simp
                refine And.intro ?_ ?_
                · intro d hd ρ W hcs bw hn hg
                  cases hd
                  have eg : ρ (.tmp 70) = .bool false := hg _ _ _ _ rfl rfl rfl
                  have e74 : ρ (.tmp 74) = .agg #[.int .u8 (xa : Int), .int .u32 (xb : Int), .int .u8 (xk : Int), .string ⟨xs.toArray⟩, .string ⟨xt.toArray⟩, .string ⟨xu.toArray⟩, .int .u8 (xz : Int)] := hn 74 (by decide)
                  have e78 : ρ (.tmp 78) = .agg #[.int .u8 (xa : Int), .int .u32 (xb : Int), .int .u8 (xk : Int), .string ⟨xs.toArray⟩, .string ⟨xt.toArray⟩, .string ⟨xu.toArray⟩, .int .u8 (xz : Int)] := hn 78 (by decide)
                  clear hn hg; have bz2 : Below wu.heap.size wu W := bz.drew.trans (bw.mono bz.drew.size)
                  refine .inl ⟨⟨_, _, rfl, rfl, eg⟩, ?_⟩
                  refine .inl ⟨.bool false, W, ?_, rfl, Below.refl _ _⟩
                  go_simp
                refine And.intro ?_ ?_
                · intro d hd ρ W hcs bw hn hg
                  cases hd
                  have e70 : ρ (.tmp 70) = .bool false := hn 70 (by decide)
                  have e79 : ρ (.tmp 79) = .bool false := hn 79 (by decide)
                  clear hn hg; have bz2 : Below wu.heap.size wu W := bz.drew.trans (bw.mono bz.drew.size)
                  refine .inl ⟨trivial, ?_⟩
                  have hc1 := hcs.1
                  refine .inl ⟨.bool false, W, ?_, rfl, Below.refl _ _⟩
                  go_simp
                trivial
              · intro a' w' hsz hdf hb hVs
                have q80 : a'.eval (.tmp 80) = .bool false := hVs 80
                have ha := slot_over_seg 66 15 [] rfl (by kernel_rfl) (of_decide_eq_true (by kernel_rfl)) hsz hdf hVs
                clear hVs hsz hdf
                rw [show List.range' 66 15 = [66, 67, 68, 69, 70, 71, 72, 73, 74, 75, 76, 77, 78, 79, 80] from rfl] at ha
                simp only [List.take_succ_cons, List.take_zero, List.drop_succ_cons, List.drop_zero, List.map_cons, List.map_nil, List.cons_append, List.nil_append, List.foldl_cons, List.foldl_nil, List.set_cons_zero, List.set_cons_succ, q80] at ha
                clear q80
                generalize a'.eval (.tmp 66) = x66 at ha
                generalize a'.eval (.tmp 67) = x67 at ha
                generalize a'.eval (.tmp 68) = x68 at ha
                generalize a'.eval (.tmp 69) = x69 at ha
                generalize a'.eval (.tmp 70) = x70 at ha
                generalize a'.eval (.tmp 71) = x71 at ha
                generalize a'.eval (.tmp 72) = x72 at ha
                generalize a'.eval (.tmp 73) = x73 at ha
                generalize a'.eval (.tmp 74) = x74 at ha
                generalize a'.eval (.tmp 75) = x75 at ha
                generalize a'.eval (.tmp 76) = x76 at ha
                generalize a'.eval (.tmp 77) = x77 at ha
                generalize a'.eval (.tmp 78) = x78 at ha
                generalize a'.eval (.tmp 79) = x79 at ha
                subst ha
                have bz2 : Below wu.heap.size wu w' := bz.drew.trans (hb.mono bz.drew.size)
                clear hb HY
                go_wp2_with fail
                go_roundg (n - (i + 1))
                case measure => omega
                case rel => exact ⟨i + 1, j + 1, by omega, by go_num, by go_num, HJ2, bz2⟩
            · rw [decide_eq_false h6] at e1
              clear e2 hcl hx hat hst z0 z1 y0 y1 h6
              go_upto_region 17 with fail
              clear q0 q1 e1
              refine region_inv2 (by kernel_rfl) [] [(66, .int .i64 (j : Int)), (67, .slice (some ad) n2 c2), (68, .int .i64 (n2 : Int)), (69, .bool false), (70, .bool false), (71, .slice (some ad) n2 c2), (72, .int .i64 (j : Int)), (73, .pointer (some (ad.add (j * 7)))), (74, .agg #[.int .u8 (xa : Int), .int .u32 (xb : Int), .int .u8 (xk : Int), .string ⟨xs.toArray⟩, .string ⟨xt.toArray⟩, .string ⟨xu.toArray⟩, .int .u8 (xz : Int)]), (75, .slice (some bd) n c1), (76, .int .i64 (i : Int)), (77, .pointer (some (bd.add (i * 7)))), (78, .agg #[.int .u8 (xa : Int), .int .u32 (xb : Int), .int .u8 (xk : Int), .string ⟨xs.toArray⟩, .string ⟨xt.toArray⟩, .string ⟨xu.toArray⟩, .int .u8 (xz : Int)]), (79, .bool false), (80, .bool false)] (by kernel_rfl) (by kernel_rfl) rfl (by kernel_rfl) ?_ ?_ ?_
              · intro q hq; cases hq
              · refine And.intro ?_ ?_
                · intro d hd ρ W hcs bw hn hg
                  cases hd
                  have e11 : ρ (.tmp 11) = .int .i64 (j : Int) := hn 11 (by decide)
                  clear hn hg; have bz2 : Below wu.heap.size wu W := bz.drew.trans (bw.mono bz.drew.size)
                  refine .inl ⟨trivial, ?_⟩
                  refine .inl ⟨_, W, rfl, e11, Below.refl _ _⟩
                refine And.intro ?_ ?_
                · intro d hd ρ W hcs bw hn hg
                  cases hd
                  have e10 : ρ (.tmp 10) = .slice (some ad) n2 c2 := hn 10 (by decide)
                  clear hn hg; have bz2 : Below wu.heap.size wu W := bz.drew.trans (bw.mono bz.drew.size)
                  refine .inl ⟨trivial, ?_⟩
                  refine .inl ⟨_, W, rfl, e10, Below.refl _ _⟩
                refine And.intro ?_ ?_
                · intro d hd ρ W hcs bw hn hg
                  cases hd
                  have e67 : ρ (.tmp 67) = .slice (some ad) n2 c2 := hn 67 (by decide)
                  clear hn hg; have bz2 : Below wu.heap.size wu W := bz.drew.trans (bw.mono bz.drew.size)
                  refine .inl ⟨trivial, ?_⟩
                  refine .inl ⟨.int .i64 (n2 : Int), W, ?_, rfl, Below.refl _ _⟩
                  go_simp
                refine And.intro ?_ ?_
                · intro d hd ρ W hcs bw hn hg
                  cases hd
                  have e66 : ρ (.tmp 66) = .int .i64 (j : Int) := hn 66 (by decide)
                  have e68 : ρ (.tmp 68) = .int .i64 (n2 : Int) := hn 68 (by decide)
                  clear hn hg; have bz2 : Below wu.heap.size wu W := bz.drew.trans (bw.mono bz.drew.size)
                  refine .inl ⟨trivial, ?_⟩
                  refine .inl ⟨.bool false, W, ?_, rfl, Below.refl _ _⟩
                  go_simp
                refine And.intro ?_ ?_
                · intro d hd ρ W hcs bw hn hg
                  cases hd
                  have e69 : ρ (.tmp 69) = .bool false := hn 69 (by decide)
                  clear hn hg; have bz2 : Below wu.heap.size wu W := bz.drew.trans (bw.mono bz.drew.size)
                  refine .inl ⟨trivial, ?_⟩
                  refine .inl ⟨_, W, rfl, e69, Below.refl _ _⟩
                refine And.intro ?_ ?_
                · intro d hd ρ W hcs bw hn hg
                  cases hd
                  have eg : ρ (.tmp 70) = .bool false := hg _ _ _ _ rfl rfl rfl
                  have e10 : ρ (.tmp 10) = .slice (some ad) n2 c2 := hn 10 (by decide)
                  clear hn hg; have bz2 : Below wu.heap.size wu W := bz.drew.trans (bw.mono bz.drew.size)
                  refine .inl ⟨⟨_, _, rfl, rfl, eg⟩, ?_⟩
                  refine .inl ⟨_, W, rfl, e10, Below.refl _ _⟩
                refine And.intro ?_ ?_
                · intro d hd ρ W hcs bw hn hg
                  cases hd
                  have eg : ρ (.tmp 70) = .bool false := hg _ _ _ _ rfl rfl rfl
                  have e11 : ρ (.tmp 11) = .int .i64 (j : Int) := hn 11 (by decide)
                  clear hn hg; have bz2 : Below wu.heap.size wu W := bz.drew.trans (bw.mono bz.drew.size)
                  refine .inl ⟨⟨_, _, rfl, rfl, eg⟩, ?_⟩
                  refine .inl ⟨_, W, rfl, e11, Below.refl _ _⟩
                refine And.intro ?_ ?_
                · intro d hd ρ W hcs bw hn hg
                  cases hd
                  have eg : ρ (.tmp 70) = .bool false := hg _ _ _ _ rfl rfl rfl
                  have e71 : ρ (.tmp 71) = .slice (some ad) n2 c2 := hn 71 (by decide)
                  have e72 : ρ (.tmp 72) = .int .i64 (j : Int) := hn 72 (by decide)
                  clear hn hg; have bz2 : Below wu.heap.size wu W := bz.drew.trans (bw.mono bz.drew.size)
                  refine .inl ⟨⟨_, _, rfl, rfl, eg⟩, ?_⟩
                  refine .inl ⟨.pointer (some (ad.add (j * 7))), W, ?_, rfl, Below.refl _ _⟩
                  go_simp
                refine And.intro ?_ ?_
                · intro d hd ρ W hcs bw hn hg
                  cases hd
                  have eg : ρ (.tmp 70) = .bool false := hg _ _ _ _ rfl rfl rfl
                  have e73 : ρ (.tmp 73) = .pointer (some (ad.add (j * 7))) := hn 73 (by decide)
                  clear hn hg; have bz2 : Below wu.heap.size wu W := bz.drew.trans (bw.mono bz.drew.size)
                  refine .inl ⟨⟨_, _, rfl, rfl, eg⟩, ?_⟩
                  have z0 : W.cell? (ad.add (j * 7)) = some (.int .u8 (xa : Int)) := (bz2.cell (by exact hadb)).trans (HY.out.1.1)
                  have z1 : W.cell? { block := (ad.add (j * 7)).block, off := (ad.add (j * 7)).off + 1 } = some (.int .u32 (xb : Int)) := (bz2.cell (by exact hadb)).trans (HY.out.1.2 0 _ rfl)
                  have z2 : W.cell? { block := (ad.add (j * 7)).block, off := (ad.add (j * 7)).off + 2 } = some (.int .u8 (xk : Int)) := (bz2.cell (by exact hadb)).trans (HY.out.1.2 1 _ rfl)
                  have z3 : W.cell? { block := (ad.add (j * 7)).block, off := (ad.add (j * 7)).off + 3 } = some (.string ⟨xs.toArray⟩) := (bz2.cell (by exact hadb)).trans (HY.out.1.2 2 _ rfl)
                  have z4 : W.cell? { block := (ad.add (j * 7)).block, off := (ad.add (j * 7)).off + 4 } = some (.string ⟨xt.toArray⟩) := (bz2.cell (by exact hadb)).trans (HY.out.1.2 3 _ rfl)
                  have z5 : W.cell? { block := (ad.add (j * 7)).block, off := (ad.add (j * 7)).off + 5 } = some (.string ⟨xu.toArray⟩) := (bz2.cell (by exact hadb)).trans (HY.out.1.2 4 _ rfl)
                  have z6 : W.cell? { block := (ad.add (j * 7)).block, off := (ad.add (j * 7)).off + 6 } = some (.int .u8 (xz : Int)) := (bz2.cell (by exact hadb)).trans (HY.out.1.2 5 _ rfl)
                  refine .inl ⟨.agg #[.int .u8 (xa : Int), .int .u32 (xb : Int), .int .u8 (xk : Int), .string ⟨xs.toArray⟩, .string ⟨xt.toArray⟩, .string ⟨xu.toArray⟩, .int .u8 (xz : Int)], W, ?_, rfl, Below.refl _ _⟩
                  go_simp
                refine And.intro ?_ ?_
                · intro d hd ρ W hcs bw hn hg
                  cases hd
                  have eg : ρ (.tmp 70) = .bool false := hg _ _ _ _ rfl rfl rfl
                  have e9 : ρ (.tmp 9) = .slice (some bd) n c1 := hn 9 (by decide)
                  clear hn hg; have bz2 : Below wu.heap.size wu W := bz.drew.trans (bw.mono bz.drew.size)
                  refine .inl ⟨⟨_, _, rfl, rfl, eg⟩, ?_⟩
                  refine .inl ⟨_, W, rfl, e9, Below.refl _ _⟩
                refine And.intro ?_ ?_
                · intro d hd ρ W hcs bw hn hg
                  cases hd
                  have eg : ρ (.tmp 70) = .bool false := hg _ _ _ _ rfl rfl rfl
                  have e12 : ρ (.tmp 12) = .int .i64 (i : Int) := hn 12 (by decide)
                  clear hn hg; have bz2 : Below wu.heap.size wu W := bz.drew.trans (bw.mono bz.drew.size)
                  refine .inl ⟨⟨_, _, rfl, rfl, eg⟩, ?_⟩
                  refine .inl ⟨_, W, rfl, e12, Below.refl _ _⟩
                refine And.intro ?_ ?_
                · intro d hd ρ W hcs bw hn hg
                  cases hd
                  have eg : ρ (.tmp 70) = .bool false := hg _ _ _ _ rfl rfl rfl
                  have e75 : ρ (.tmp 75) = .slice (some bd) n c1 := hn 75 (by decide)
                  have e76 : ρ (.tmp 76) = .int .i64 (i : Int) := hn 76 (by decide)
                  clear hn hg; have bz2 : Below wu.heap.size wu W := bz.drew.trans (bw.mono bz.drew.size)
                  refine .inl ⟨⟨_, _, rfl, rfl, eg⟩, ?_⟩
                  refine .inl ⟨.pointer (some (bd.add (i * 7))), W, ?_, rfl, Below.refl _ _⟩
                  go_simp
                refine And.intro ?_ ?_
                · intro d hd ρ W hcs bw hn hg
                  cases hd
                  have eg : ρ (.tmp 70) = .bool false := hg _ _ _ _ rfl rfl rfl
                  have e77 : ρ (.tmp 77) = .pointer (some (bd.add (i * 7))) := hn 77 (by decide)
                  clear hn hg; have bz2 : Below wu.heap.size wu W := bz.drew.trans (bw.mono bz.drew.size)
                  refine .inl ⟨⟨_, _, rfl, rfl, eg⟩, ?_⟩
                  have z0 : W.cell? (bd.add (i * 7)) = some (.int .u8 (xa : Int)) := (bz2.cell (by exact hbdb)).trans (HY.out.2.1)
                  have z1 : W.cell? { block := (bd.add (i * 7)).block, off := (bd.add (i * 7)).off + 1 } = some (.int .u32 (xb : Int)) := (bz2.cell (by exact hbdb)).trans (HY.out.2.2 0 _ rfl)
                  have z2 : W.cell? { block := (bd.add (i * 7)).block, off := (bd.add (i * 7)).off + 2 } = some (.int .u8 (xk : Int)) := (bz2.cell (by exact hbdb)).trans (HY.out.2.2 1 _ rfl)
                  have z3 : W.cell? { block := (bd.add (i * 7)).block, off := (bd.add (i * 7)).off + 3 } = some (.string ⟨xs.toArray⟩) := (bz2.cell (by exact hbdb)).trans (HY.out.2.2 2 _ rfl)
                  have z4 : W.cell? { block := (bd.add (i * 7)).block, off := (bd.add (i * 7)).off + 4 } = some (.string ⟨xt.toArray⟩) := (bz2.cell (by exact hbdb)).trans (HY.out.2.2 3 _ rfl)
                  have z5 : W.cell? { block := (bd.add (i * 7)).block, off := (bd.add (i * 7)).off + 5 } = some (.string ⟨xu.toArray⟩) := (bz2.cell (by exact hbdb)).trans (HY.out.2.2 4 _ rfl)
                  have z6 : W.cell? { block := (bd.add (i * 7)).block, off := (bd.add (i * 7)).off + 6 } = some (.int .u8 (xz : Int)) := (bz2.cell (by exact hbdb)).trans (HY.out.2.2 5 _ rfl)
                  refine .inl ⟨.agg #[.int .u8 (xa : Int), .int .u32 (xb : Int), .int .u8 (xk : Int), .string ⟨xs.toArray⟩, .string ⟨xt.toArray⟩, .string ⟨xu.toArray⟩, .int .u8 (xz : Int)], W, ?_, rfl, Below.refl _ _⟩
                  go_simp
                refine And.intro ?_ ?_
                · intro d hd ρ W hcs bw hn hg
                  cases hd
                  have eg : ρ (.tmp 70) = .bool false := hg _ _ _ _ rfl rfl rfl
                  have e74 : ρ (.tmp 74) = .agg #[.int .u8 (xa : Int), .int .u32 (xb : Int), .int .u8 (xk : Int), .string ⟨xs.toArray⟩, .string ⟨xt.toArray⟩, .string ⟨xu.toArray⟩, .int .u8 (xz : Int)] := hn 74 (by decide)
                  have e78 : ρ (.tmp 78) = .agg #[.int .u8 (xa : Int), .int .u32 (xb : Int), .int .u8 (xk : Int), .string ⟨xs.toArray⟩, .string ⟨xt.toArray⟩, .string ⟨xu.toArray⟩, .int .u8 (xz : Int)] := hn 78 (by decide)
                  clear hn hg; have bz2 : Below wu.heap.size wu W := bz.drew.trans (bw.mono bz.drew.size)
                  refine .inl ⟨⟨_, _, rfl, rfl, eg⟩, ?_⟩
                  refine .inl ⟨.bool false, W, ?_, rfl, Below.refl _ _⟩
                  go_simp
                refine And.intro ?_ ?_
                · intro d hd ρ W hcs bw hn hg
                  cases hd
                  have e70 : ρ (.tmp 70) = .bool false := hn 70 (by decide)
                  have e79 : ρ (.tmp 79) = .bool false := hn 79 (by decide)
                  clear hn hg; have bz2 : Below wu.heap.size wu W := bz.drew.trans (bw.mono bz.drew.size)
                  refine .inl ⟨trivial, ?_⟩
                  have hc1 := hcs.1
                  refine .inl ⟨.bool false, W, ?_, rfl, Below.refl _ _⟩
                  go_simp
                trivial
              · intro a' w' hsz hdf hb hVs
                have q80 : a'.eval (.tmp 80) = .bool false := hVs 80
                have ha := slot_over_seg 66 15 [] rfl (by kernel_rfl) (of_decide_eq_true (by kernel_rfl)) hsz hdf hVs
                clear hVs hsz hdf
                rw [show List.range' 66 15 = [66, 67, 68, 69, 70, 71, 72, 73, 74, 75, 76, 77, 78, 79, 80] from rfl] at ha
                simp only [List.take_succ_cons, List.take_zero, List.drop_succ_cons, List.drop_zero, List.map_cons, List.map_nil, List.cons_append, List.nil_append, List.foldl_cons, List.foldl_nil, List.set_cons_zero, List.set_cons_succ, q80] at ha
                clear q80
                generalize a'.eval (.tmp 66) = x66 at ha
                generalize a'.eval (.tmp 67) = x67 at ha
                generalize a'.eval (.tmp 68) = x68 at ha
                generalize a'.eval (.tmp 69) = x69 at ha
                generalize a'.eval (.tmp 70) = x70 at ha
                generalize a'.eval (.tmp 71) = x71 at ha
                generalize a'.eval (.tmp 72) = x72 at ha
                generalize a'.eval (.tmp 73) = x73 at ha
                generalize a'.eval (.tmp 74) = x74 at ha
                generalize a'.eval (.tmp 75) = x75 at ha
                generalize a'.eval (.tmp 76) = x76 at ha
                generalize a'.eval (.tmp 77) = x77 at ha
                generalize a'.eval (.tmp 78) = x78 at ha
                generalize a'.eval (.tmp 79) = x79 at ha
                subst ha
                have bz2 : Below wu.heap.size wu w' := bz.drew.trans (hb.mono bz.drew.size)
                clear hb HY
                go_wp2_with fail
                go_roundg (n - (i + 1))
                case measure => omega
                case rel => exact ⟨i + 1, j + 1, by omega, by go_num, by go_num, HJ2, bz2⟩
        · have hk5 : ¬ (i : Int) < (n : Int) := by omega
          have hjn : j = n2 := by
            rw [HJ.out, ← HN.out.2, HF.out, List.take_of_length_le (by rw [HN.out.1]; omega)]
          subst hjn
          go_wp2_with fail
          refine (wakes_any _).mono ?_; rintro e w6 ⟨rfl, B6⟩
          have by_ := bw.trans (bz.mono bw.size)
          have bz := by_.trans (B6.mono by_.size)
          go_wp2_with fail
          go_ret
          exact ⟨rfl, bz⟩
end Go.Proofs.Ytgpdggojajjppaa.Bat
