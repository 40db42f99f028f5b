/- The law ChainAhead walked. Conditions: the arguments can be read. -/
import Derived.Test.YtbamfnlgapchkaaChWakes
namespace Go.Proofs.Ytbamfnlgapchkaa.Chn
open Go.RowKit Mem DrawInv

/-- append(append(nil, a...), b...) of bytes. -/
theorem app_lists {w : World} {a b : List Nat} {n m : Nat} {A B : Option Addr} {c d : Nat} (ha : Reads w w.heap.size 1 A n (a.map u8v)) (hb : Reads w w.heap.size 1 B m (b.map u8v)) (hn : n ≤ 1000) (hm : m ≤ 1000) :
    ∃ v1 w1 A2 k2 w2, (Builtin.append_ #[22, 22] 22 #[.slice none 0 0, .slice A n c]).run Try.prog w = .ok v1 w1 ∧ (Builtin.append_ #[22, 22] 22 #[v1, .slice B m d]).run Try.prog w1 = .ok (.slice A2 (n + m) k2) w2 ∧
      Reads w2 w2.heap.size 1 A2 (n + m) ((a ++ b).map u8v) ∧ Below w.heap.size w w2 := by
  have hinf : (Try.prog.info? 5).map (fun i => (i.zero, i.size, i.bytes)) = some (some (.int .u8 0), 1, 1) := by kernel_rfl
  obtain ⟨i, hi, hz, hs, hby⟩ := info_parts hinf
  obtain ⟨v1, w1, h1, o1, g1, _⟩ := run_append_any (P := Try.prog) w w.heap.size 22 22 5 i (.int .u8 0) 1 1 Try.underlying22 hi hz hs hby rfl (by omega) (.slice none 0 0) 0 [] (World.ownsRow_nil _ _ _ _) _ A n c _ ha (one_u8v a) (by unfold maxLen; omega) (by omega) (Nat.le_refl _)
  have b1 : Below w.heap.size w w1 := (Below.refl _ w).grown g1 (Nat.le_refl _) (fun k hk => by cases hk)
  rw [Nat.zero_add, List.nil_append] at o1
  obtain ⟨v2, w2, h2, o2, g2, _⟩ := run_append_any (P := Try.prog) w1 w.heap.size 22 22 5 i (.int .u8 0) 1 1 Try.underlying22 hi hz hs hby rfl (by omega) v1 n _ o1 _ B m d _ (hb.below b1) (one_u8v b) (by unfold maxLen; omega) (by omega) b1.size
  rw [← List.map_append] at o2
  have b2 : Below w.heap.size w w2 := b1.grown g2 b1.size (fun k hk => (o1.lt k hk).1)
  obtain ⟨A2, k2, rfl, _, hr⟩ := Byt.own_slice1 o2
  exact ⟨v1, w1, A2, k2, w2, h1, h2, hr, b2⟩
def aheadN (first : Nat) (l : List Nat) (k : Nat) : Nat := if k ≤ 3 then first else l.getD (k - 4) 0
theorem ahead_at (first : Nat) (l m : List Nat) (k : Nat) (h1 : 1 ≤ k) (h2 : k ≤ l.length + 3) : (⟨0, first :: (l ++ m)⟩ : Ch).at_ k = (aheadN first l k, true) := by
  rw [at_yes (by omega) (by show 0 ≤ _; omega) (by unfold Ch.top; simp; omega)]
  unfold aheadN
  show ((first :: (l ++ m)).getD (k - 3 - 0) 0, true) = _
  split
  · rename_i h
    rw [show k - 3 - 0 = 0 by omega]
    rfl
  · rename_i h
    rw [show k - 3 - 0 = (k - 4) + 1 by omega, List.getD_eq_getElem?_getD, List.getElem?_cons_succ, List.getElem?_append_left (by omega), ← List.getD_eq_getElem?_getD]
set_option linter.unusedVariables false in
set_option maxRecDepth 100000 in
set_option maxHeartbeats 2000000 in
theorem cahead_any (first : Nat) (hf : first < 256) (l1 l2 l3 : List Nat) (hl1 : ∀ x ∈ l1, x < 256) (hl2 : ∀ x ∈ l2, x < 256) (hl3 : ∀ x ∈ l3, x < 256) (n1 n2 n3 : Nat) (hn1 : l1.length = n1) (hn2 : l2.length = n2) (hn3 : l3.length = n3) (A1 A2 A3 : Option Addr) (c1 c2 c3 : Nat) (w : World)
    (hr1 : Reads w w.heap.size 1 A1 n1 (l1.map u8v)) (hr2 : Reads w w.heap.size 1 A2 n2 (l2.map u8v)) (hr3 : Reads w w.heap.size 1 A3 n3 (l3.map u8v)) :
    Calls Try.prog 3 #[.int .u8 (first : Int), .slice A1 n1 c1, .slice A2 n2 c2, .slice A3 n3 c3] w fun e w' => e = .returned (.bool true) ∧ Below w.heap.size w w' := by
  have HL := Lib.hid (And.intro hl1 (And.intro hl2 hl3))
  have HN := Lib.hid (And.intro hn1 (And.intro hn2 hn3))
  have HR := Lib.hid (And.intro hr1 (And.intro hr2 hr3))
  have bw := Below.refl w.heap.size w
  clear hl1 hl2 hl3 hn1 hn2 hn3 hr1 hr2 hr3
  by_cases g1 : 60 < n1
  · have g1i : (60 : Int) < (n1 : Int) := by omega
    go_enter Try.func3, Try.ntmps3
    go_wp2_with fail
    refine (wakes_any _).mono ?_; rintro e w9 ⟨rfl, B9⟩
    have bz := bw.trans (B9.mono bw.size)
    go_wp2_with fail
    go_ret
    exact ⟨rfl, bz⟩
  have g1i : ¬ (60 : Int) < (n1 : Int) := by omega
  by_cases g2 : 60 < n2
  · have g2i : (60 : Int) < (n2 : Int) := by omega
    go_enter Try.func3, Try.ntmps3
    go_wp2_with fail
    refine (wakes_any _).mono ?_; rintro e w9 ⟨rfl, B9⟩
    have bz := bw.trans (B9.mono bw.size)
    go_wp2_with fail
    go_ret
    exact ⟨rfl, bz⟩
  have g2i : ¬ (60 : Int) < (n2 : Int) := by omega
  by_cases g3 : 60 < n3
  · have g3i : (60 : Int) < (n3 : Int) := by omega
    go_enter Try.func3, Try.ntmps3
    go_wp2_with fail
    refine (wakes_any _).mono ?_; rintro e w9 ⟨rfl, B9⟩
    have bz := bw.trans (B9.mono bw.size)
    go_wp2_with fail
    go_ret
    exact ⟨rfl, bz⟩
  have g3i : ¬ (60 : Int) < (n3 : Int) := by omega
  obtain ⟨u1, wa1, B1, k1, wb1, ha1, ha2, hrx, bx⟩ := app_lists (c := c1) (d := c2) HR.out.1 HR.out.2.1 (by omega) (by omega)
  have HP1 := Lib.hid (pushed_any first hf (l1 ++ l2) (fun x hx => (List.mem_append.1 hx).elim (HL.out.1 x) (HL.out.2.1 x)) (n1 + n2) (by rw [List.length_append, HN.out.1, HN.out.2.1]) (by omega) B1 k1 wb1 hrx)
  have HP2 := Lib.hid (fun (B : Option Addr) (k : Nat) (W : World) (h : Reads W W.heap.size 1 B (n1 + n3) ((l1 ++ l3).map u8v)) => pushed_any first hf (l1 ++ l3) (fun x hx => (List.mem_append.1 hx).elim (HL.out.1 x) (HL.out.2.2 x)) (n1 + n3) (by rw [List.length_append, HN.out.1, HN.out.2.2]) (by omega) B k W h)
  have bw := bx
  clear hrx bx g1 g2 g3 hf
  go_enter Try.func3, Try.ntmps3
  go_wp2_with (first | refine wpList_run_append (by rfl) (.const (.slice none 0 0)) (.tmp 34) 22 (by rfl) (by rfl) (by rfl) ha1 ?_ | refine wpList_run_append (by rfl) (.tmp 35) (.tmp 36) 22 (by rfl) (by rfl) (by rfl) ha2 ?_)
  refine HP1.out.mono ?_; rintro e w2 ⟨hx, B2⟩
  have HX := Lib.hid hx
  have bw0 := bw.trans (B2.mono bw.size)
  have HB1 : Hid (w.heap.size ≤ wb1.heap.size) := bw.size
  clear ha1 ha2 HP1 hx bw B2
  have bw := bw0
  clear bw0
  have hs1 := HR.out.1.below bw
  have hs3 := HR.out.2.2.below bw
  obtain ⟨u2, wa2, B3, k3, wb2, ha3, ha4, hry, by_⟩ := app_lists (c := c1) (d := c3) (hs1.more bw.size) (hs3.more bw.size) (by omega) (by omega)
  have HP2 := Lib.hid (HP2.out B3 k3 wb2 hry)
  have bw2 := bw.trans (by_.mono bw.size)
  have HBY := Lib.hid by_
  clear hs1 hs3 hry by_ bw
  have bw := bw2
  clear bw2
  rcases HX.out with ⟨hall1, gx, vx, rfl, qx⟩ | ⟨hno, rfl⟩
  rotate_left
  · clear HX hno HBY
    go_wp2_with (first | refine wpList_run_append (by rfl) (.const (.slice none 0 0)) (.tmp 40) 22 (by rfl) (by rfl) (by rfl) ha3 ?_ | refine wpList_run_append (by rfl) (.tmp 41) (.tmp 42) 22 (by rfl) (by rfl) (by rfl) ha4 ?_)
    refine HP2.out.mono ?_; rintro e w3 ⟨hy, B3⟩
    have HY := Lib.hid hy
    have bw2 := bw.trans (B3.mono bw.size)
    clear ha3 ha4 hy B3 bw HP2
    have bw := bw2
    clear bw2
    rcases HY.out with ⟨hall2, gy, vy, rfl, qy⟩ | ⟨hno2, rfl⟩
    · clear HY qy hall2
      go_wp2_with fail
      refine (wakes_any _).mono ?_; rintro e w9 ⟨rfl, B9⟩
      have bz := bw.trans (B9.mono bw.size)
      go_wp2_with fail
      go_ret
      exact ⟨rfl, bz⟩
    · clear HY hno2
      go_wp2_with fail
      refine (wakes_any _).mono ?_; rintro e w9 ⟨rfl, B9⟩
      have bz := bw.trans (B9.mono bw.size)
      go_wp2_with fail
      go_ret
      exact ⟨rfl, bz⟩
  have qx := qx.below HBY.out
  clear HX hall1 HBY
  go_wp2_with (first | refine wpList_run_append (by rfl) (.const (.slice none 0 0)) (.tmp 40) 22 (by rfl) (by rfl) (by rfl) ha3 ?_ | refine wpList_run_append (by rfl) (.tmp 41) (.tmp 42) 22 (by rfl) (by rfl) (by rfl) ha4 ?_)
  refine HP2.out.mono ?_; rintro e w3 ⟨hy, B3⟩
  have HY := Lib.hid hy
  have bw2 := bw.trans (B3.mono bw.size)
  have qx := qx.below B3
  clear ha3 ha4 hy B3 bw HP2
  have bw := bw2
  clear bw2
  rcases HY.out with ⟨hall2, gy, vy, rfl, qy⟩ | ⟨hno2, rfl⟩
  rotate_left
  · clear HY hno2 qx
    go_wp2_with fail
    refine (wakes_any _).mono ?_; rintro e w9 ⟨rfl, B9⟩
    have bz := bw.trans (B9.mono bw.size)
    go_wp2_with fail
    go_ret
    exact ⟨rfl, bz⟩
  clear HY hall2
  have hwn : IntKind.u64.wrap (n1 : Int) = (n1 : Int) := by rw [IntKind.wrap_u64]; omega
  have hwm : IntKind.u64.wrap ((n1 : Int) + 3) = (n1 : Int) + 3 := by rw [IntKind.wrap_u64]; omega
  go_wp2_with fail
  go_loopg [11] (n1 + 3) (fun gk v11 wr => ∃ k : Nat, k + gk = n1 + 4 ∧ 1 ≤ k ∧ v11 = .int .u64 (k : Int) ∧ ChS wb1.heap.size gx ⟨0, first :: (l1 ++ l2)⟩ vx wr ∧ ChS wb2.heap.size gy ⟨0, first :: (l1 ++ l3)⟩ vy wr ∧ Below w.heap.size w wr)
  case atStart => exact ⟨1, by omega, Nat.le_refl _, rfl, qx, qy, bw⟩
  case round =>
    clear qx qy bw
    obtain ⟨k, hk, hk1, rfl, qx, qy, bw⟩ := hrel
    by_cases h4 : k ≤ n1 + 3
    · have hk4 : (k : Int) ≤ (n1 : Int) + 3 := by omega
      have HAX := Lib.hid (at_any qx k (by omega))
      rw [ahead_at first l1 l2 k hk1 (by rw [HN.out.1]; exact h4)] at HAX
      have HAY := Lib.hid (fun W q => at_any (B := wb2.heap.size) (g := gy) (c := ⟨0, first :: (l1 ++ l3)⟩) (v := vy) (w := W) q k (by omega))
      rw [ahead_at first l1 l3 k hk1 (by rw [HN.out.1]; exact h4)] at HAY
      have hwk : IntKind.u64.wrap ((k : Int) + 1) = ((k + 1 : Nat) : Int) := by rw [IntKind.wrap_u64]; omega
      obtain ⟨s, hs⟩ : ∃ s, s = aheadN first l1 k := ⟨_, rfl⟩
      rw [← hs] at HAX HAY
      have HS := Lib.hid hs
      clear hs
      go_wp2_with fail
      refine HAX.out.mono ?_; rintro e w4 ⟨rfl, B4⟩
      have qx := qx.below B4
      have qy := qy.below B4
      have bw := bw.trans (B4.mono bw.size)
      clear B4 HAX hk4
      go_wp2_with fail
      refine (HAY.out w4 qy).mono ?_; rintro e w5 ⟨rfl, B5⟩
      have qx := qx.below B5
      have qy := qy.below B5
      have bw := bw.trans (B5.mono bw.size)
      clear B5 HAY
      have HQ := Lib.hid (And.intro qx (And.intro qy bw))
      clear qx qy
      have hne : ((s : Int) != (s : Int)) = false := by simp
      by_cases h5 : k ≤ 3
      · have hk5 : ¬ (3 : Int) < (k : Int) := by omega
        have hsf : s = first := by rw [HS.out]; unfold aheadN; rw [if_pos h5]
        subst hsf
        go_wp2_with fail
        go_roundg (n1 + 3 - k)
        case measure => omega
        case rel => exact ⟨k + 1, by omega, by omega, rfl, HQ.out.1, HQ.out.2.1, HQ.out.2.2⟩
      · have hk5 : (3 : Int) < (k : Int) := by omega
        obtain ⟨j, hj⟩ : ∃ j, j = k - 4 := ⟨_, rfl⟩
        have hw1 : IntKind.u64.wrap ((k : Int) - 3) = (k : Int) - 3 := by rw [IntKind.wrap_u64]; omega
        have hw2 : IntKind.u64.wrap ((k : Int) - 3 - 1) = (j : Int) := by rw [IntKind.wrap_u64]; omega
        have hjn : j < n1 := by omega
        obtain ⟨ad, u, rfl, hadl, hu, hcell⟩ := HR.out.1.at_ hjn
        have hus : u = .int .u8 (s : Int) := by
          rw [List.getElem?_map] at hu
          rw [HS.out]
          unfold aheadN
          rw [if_neg h5, List.getD_eq_getElem?_getD, ← hj]
          cases hd : l1[j]? with
          | none => rw [hd] at hu; cases hu
          | some y => rw [hd] at hu; exact (Option.some.inj hu).symm
        subst hus
        have q0 := (bw.cell (p := ad.add j) (by rw [block_of_add]; exact hadl)).trans hcell
        have hjni : (j : Int) < (n1 : Int) := by omega
        clear hu hcell hj
        go_wp2_with fail
        go_roundg (n1 + 3 - k)
        case measure => omega
        case rel => exact ⟨k + 1, by omega, by omega, rfl, HQ.out.1, HQ.out.2.1, HQ.out.2.2⟩
    · have hk4 : ¬ (k : Int) ≤ (n1 : Int) + 3 := by omega
      have HT := Lib.hid (top_any qx)
      have htp : (⟨0, first :: (l1 ++ l2)⟩ : Ch).top = n1 + n2 := by unfold Ch.top; simp [HN.out.1, HN.out.2.1]
      rw [htp] at HT
      have HA := Lib.hid (fun W q => at_any (B := wb1.heap.size) (g := gx) (c := ⟨0, first :: (l1 ++ l2)⟩) (v := vx) (w := W) q (n1 + n2 + 3 + 1) (by omega))
      rw [at_no (c := ⟨0, first :: (l1 ++ l2)⟩) (slot := n1 + n2 + 3 + 1) (.inr (.inr (by rw [htp]; omega)))] at HA
      obtain ⟨tp, htp2⟩ : ∃ tp, tp = n1 + n2 := ⟨_, rfl⟩
      rw [← htp2] at HT HA
      have hw1 : IntKind.u64.wrap ((tp : Int) + 3) = ((tp + 3 : Nat) : Int) := by rw [IntKind.wrap_u64]; omega
      have hw2 : IntKind.u64.wrap (((tp + 3 : Nat) : Int) + 1) = ((tp + 3 + 1 : Nat) : Int) := by rw [IntKind.wrap_u64]; omega
      obtain ⟨t3, ht3⟩ : ∃ t3, t3 = tp + 3 := ⟨_, rfl⟩
      rw [← ht3] at hw1 hw2 HA
      obtain ⟨t4, ht4⟩ : ∃ t4, t4 = t3 + 1 := ⟨_, rfl⟩
      rw [← ht4] at hw2 HA
      clear qy htp htp2 ht3 ht4
      go_wp2_with fail
      refine HT.out.mono ?_; rintro e w4 ⟨rfl, B4⟩
      have qx := qx.below B4
      have bw := bw.trans (B4.mono bw.size)
      clear B4 HT
      go_wp2_with fail
      refine (HA.out w4 qx).mono ?_; rintro e w5 ⟨rfl, B5⟩
      have bw := bw.trans (B5.mono bw.size)
      clear B5 HA qx
      go_wp2_with fail
      refine (wakes_any _).mono ?_; rintro e w9 ⟨rfl, B9⟩
      have bz := bw.trans (B9.mono bw.size)
      go_wp2_with fail
      go_ret
      exact ⟨rfl, bz⟩
end Go.Proofs.Ytbamfnlgapchkaa.Chn
