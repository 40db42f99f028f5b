/- Package thrift, walked: the iterator of the nodes ahead. Conditions: the memory lies in memory of its own. -/
import Derived.Test.YtbamfnlgapchkaaThC
namespace Go.Proofs.Ytbamfnlgapchkaa.Thr
open Go Go.RowKit Mem DrawInv Chn

attribute [local go_sem] Oper.semAt_some
/-- What ahead hands back. -/
def AheadRet (w : World) (g cf : Nat) (e : Ending) (w' : World) : Prop := ∃ bc bm, e = .returned (.func (.func 90) #[] #[.pointer (some ⟨bc, 0, none⟩), .pointer (some ⟨bm, 0, none⟩)]) ∧ Boxed w' bc 27 (.int .u8 (cf : Int)) ∧ Boxed w' bm 55 (.pointer (some ⟨g, 0, none⟩)) ∧ w.heap.size ≤ bc ∧ w.heap.size ≤ bm ∧ Below w.heap.size w w'
theorem ahead_any (g cf : Nat) (w : World) : Calls Try.prog 77 #[.pointer (some ⟨g, 0, none⟩), .int .u8 (cf : Int)] w fun e w' => AheadRet w g cf e w' := by
  have kM := (Boxed.new w 55 (.pointer (some ⟨g, 0, none⟩))).alloc (.cells #[.int .u8 (cf : Int)] 27)
  have kC := Boxed.new (w.alloc (.cells #[.pointer (some ⟨g, 0, none⟩)] 55)) 27 (.int .u8 (cf : Int))
  rw [World.size_alloc] at kC
  have bw : Below w.heap.size w ((w.alloc (.cells #[.pointer (some ⟨g, 0, none⟩)] 55)).alloc (.cells #[.int .u8 (cf : Int)] 27)) := ((Below.refl _ w).alloc (Nat.le_refl _) _).alloc (by simp) _
  have HQ := Lib.hid (And.intro kM (And.intro kC bw))
  clear kM kC bw
  go_enter Try.func77, Try.ntmps77
  go_wp2_with fail
  go_ret
  exact ⟨_, _, rfl, HQ.out.2.1, HQ.out.1, by omega, by omega, HQ.out.2.2⟩
def lkT (me : Nat) (row L : List Nat) : Nat → List Nat
  | 0 => [me]
  | 1 => row
  | _ => L
def pfxT (me : Nat) (row L : List Nat) : Nat → List Nat
  | 0 => []
  | 1 => [me]
  | 2 => me :: row
  | _ => me :: (row ++ L)
theorem pfx_succ (me : Nat) (row L : List Nat) {k : Nat} (h : k < 3) : pfxT me row L (k + 1) = pfxT me row L k ++ lkT me row L k := by
  match k, h with
  | 0, _ => rfl
  | 1, _ => rfl
  | 2, _ => rfl
theorem pfx_lt {me : Nat} {row : List Nat} {c : Nat} (h1 : me < 7) (h2 : ∀ x ∈ row, x < 7) (k : Nat) : ∀ x ∈ lkT me row (listN c) k, x < 7 := by
  intro x hx
  match k, hx with
  | 0, hx => simp [lkT] at hx; omega
  | 1, hx => exact h2 x hx
  | k + 2, hx => exact list_lt7 c x hx
theorem pfx_all (me : Nat) (row L : List Nat) (k : Nat) (xs : List Nat) (hk : k < 3) (hx : xs <+: lkT me row L k) : pfxT me row L k ++ xs <+: pfxT me row L 3 := by
  obtain ⟨t, ht⟩ := hx
  match k, hk with
  | 0, _ => exact ⟨t ++ (row ++ L), by rw [show pfxT me row L 0 = [] from rfl, List.nil_append, ← List.append_assoc, ht]; rfl⟩
  | 1, _ => exact ⟨t ++ L, by rw [List.append_assoc, ← List.append_assoc xs, ht]; rfl⟩
  | 2, _ => exact ⟨t, by rw [List.append_assoc, ht]; rfl⟩
/-- The row of one node; the three rows. -/
def One1 (ga me : Nat) (v : Value) (W : World) : Prop := ∃ h, v = .slice (some ⟨h, 0, none⟩) 1 1 ∧ Blk W h 5 #[.int .u8 (me : Int)] ∧ h ≠ ga
theorem One1.below_ (ga me : Nat) (v : Value) (w w' : World) (q : One1 ga me v w) (hb : Below w.heap.size w w') : One1 ga me v w' := by
  obtain ⟨h, e, k, hn⟩ := q
  exact ⟨h, e, k.below hb k.lt, hn⟩
def Heads (ga me : Nat) (v1 v2 : Value) (v : Value) (W : World) : Prop := ∃ hb h, v = .slice (some ⟨hb, 0, none⟩) 3 3 ∧ Blk W hb 22 #[.slice (some ⟨h, 0, none⟩) 1 1, v1, v2] ∧ hb ≠ ga ∧ Blk W h 5 #[.int .u8 (me : Int)] ∧ h ≠ ga
theorem Heads.below_ (ga me : Nat) (v1 v2 : Value) (v : Value) (w w' : World) (q : Heads ga me v1 v2 v w) (hb : Below w.heap.size w w') : Heads ga me v1 v2 v w' := by
  obtain ⟨a, h, e, k, hn, k2, hn2⟩ := q
  exact ⟨a, h, e, k.below hb k.lt, hn, k2.below hb k2.lt, hn2⟩
theorem has_b (s n : Nat) (hs : s < 256) (hn : n < 256) (w : World) : Calls Try.prog 46 #[.int .u8 (s : Int), .int .u8 (n : Int)] w fun e w' => e = .returned (.bool (hasB s n)) ∧ Below w.heap.size w w' :=
  (has_any s n hs hn w).mono fun _ _ ⟨h, hw⟩ => ⟨h, by rw [← hw]; exact (Below.refl _ w).alloc (Nat.le_refl _) _⟩
set_option linter.unusedVariables false in
set_option linter.unusedSimpArgs false in
set_option maxRecDepth 100000 in
set_option maxHeartbeats 2000000 in
theorem ahead_in (n ga g me cf bc bm : Nat) (row : List Nat) (hme : me < 7) (hrow : ∀ x ∈ row, x < 7) (hrl : row.length ≤ 100) (hcf : cf < 256) (A : Option Addr) (nr c : Nat) (w0 : World)
    (cg0 : w0.cell? ⟨g, 0, none⟩ = some (.int .u8 (me : Int))) (cg1 : w0.cell? ⟨g, 1, none⟩ = some (.slice A nr c)) (hlr : Lst ga w0 A nr row) (cbc : w0.cell? ⟨bc, 0, none⟩ = some (.int .u8 (cf : Int))) (cbm : w0.cell? ⟨bm, 0, none⟩ = some (.pointer (some ⟨g, 0, none⟩)))
    (hg : g ≠ ga) (hbc : bc ≠ ga) (hbm : bm ≠ ga) (l : Nat) (J Jx : List Nat → World → Prop) (W : World) (hk : KpC ga w0 W) (hW : ga < W.heap.size)
    (hJ : ∀ (X Y : World) (pre : List Nat), J pre X → Below X.heap.size X Y → J pre Y)
    (hY : ∀ (pre : List Nat) (x : Nat) (W1 : World), x < 7 → J pre W1 → pre ++ [x] <+: outT (listN cf) (pfxT me row (listN cf) 3) → YieldAt Fence.wide (n - 1) Try.prog l #[.int .u8 (x : Int)] W1 fun e W' =>
      (e = .returned (.bool true) ∧ J (pre ++ [x]) W' ∧ KpC ga W1 W') ∨ (e = .returned (.bool false) ∧ Jx (pre ++ [x]) W')) (h0 : J [] W) :
    CallsIn Fence.wide n Try.prog 90 #[.func (.yield l) #[] #[], .pointer (some ⟨bc, 0, none⟩), .pointer (some ⟨bm, 0, none⟩)] W fun e W' => (∃ v, e = .returned v) ∧ ((∃ xs, xs = outT (listN cf) (pfxT me row (listN cf) 3) ∧ J xs W') ∨ (∃ pre, pre <+: outT (listN cf) (pfxT me row (listN cf) 3) ∧ Jx pre W')) := by
  obtain ⟨T, hT⟩ : ∃ T, T = outT (listN cf) (pfxT me row (listN cf) 3) := ⟨_, rfl⟩
  rw [← hT] at hY ⊢
  have HT := Lib.hid hT
  have HY := Lib.hid hY
  have HJ := Lib.hid hJ
  have HROW := Lib.hid (And.intro hme (And.intro hrow hrl))
  have HLEN : Hid ((listN cf).length ≤ 7) := listTo_len cf 7
  obtain ⟨L, hL⟩ : ∃ L, L = listN cf := ⟨_, rfl⟩
  have HL := Lib.hid hL
  rw [← hL] at HT HLEN
  have HO := Lib.hid (of_any none 0 0 [] rfl (by simp) W (fun k x h => by simp at h) (by simp))
  have cbc1 := hk ⟨bc, 0, none⟩ _ hbc cbc
  have HA := Lib.hid (fun (X : World) => all_any cf X)
  have HC := Lib.hid (fun (X : World) => collect_any cf hcf X)
  rw [← hL] at HC
  have HK := Lib.hid hk
  have HJ0 := Lib.hid h0
  have HLR := Lib.hid hlr
  have HNE := Lib.hid (And.intro hg (And.intro hbc hbm))
  have HCF := Lib.hid hcf
  clear hT hY hJ hL hk h0 hlr hme hrow hrl hg hbc hbm hcf
  refine callsIn_of_wp Try.func90 rfl trivial ?_ rfl
  simp only [Try.ntmps90, List.size_toArray, List.length_cons, List.length_nil, Nat.reduceAdd, Nat.reduceSub, Array.replicate_succ, Array.replicate_zero, List.push_toArray, List.append_toArray, List.nil_append, List.cons_append]
  gi_wp2
  refine ⟨trivial, (fun h => by cases h), ?_⟩
  refine (callsIn_wide.2 HO.out).mono ?_; rintro e w2 ⟨rfl, rfl⟩
  clear HO
  gi_wp2
  refine ⟨trivial, (fun h => by cases h), ?_⟩
  refine (callsIn_wide.2 (HA.out _)).mono ?_; rintro e w2 ⟨rfl, rfl⟩
  clear HA
  gi_wp2
  refine ⟨trivial, (fun h => by cases h), ?_⟩
  refine (callsIn_wide.2 (HC.out _)).mono ?_; rintro e w2 hcc
  clear HC
  obtain ⟨u, rfl, ho, B2⟩ := hcc
  have hn3 : L.length ≤ 7 := HLEN.out
  have HNU : Hid (u.ownBlock ≠ some ga) := fun e => by have := (ho.lt ga e).1; omega
  obtain ⟨n3, hn3d⟩ : ∃ k, k = L.length := ⟨_, rfl⟩
  rw [← hn3d] at ho hn3
  have HN3 := Lib.hid hn3d
  obtain ⟨A3, c3, hu, _, _⟩ := Byt.own_slice1 ho
  subst hu
  have HL3 := Lib.hid (Lst.of_own ho HNU.out)
  have HK2 : Hid (KpC ga w0 w2) := HK.out.trans (KpC.of_below B2)
  have HJ2 := Lib.hid (HJ.out _ _ _ HJ0.out B2)
  have HW2 : Hid (ga < w2.heap.size) := Nat.lt_of_lt_of_le hW B2.size
  have cbm2 : w2.drew.cell? ⟨bm, 0, none⟩ = some (.pointer (some ⟨g, 0, none⟩)) := HK2.out _ _ HNE.out.2.2 cbm
  have cg02 : w2.drew.cell? ⟨g, 0, none⟩ = some (.int .u8 (me : Int)) := HK2.out _ _ HNE.out.1 cg0
  have cg12 : w2.drew.cell? ⟨g, 1, none⟩ = some (.slice A nr c) := HK2.out _ _ HNE.out.1 cg1
  clear ho B2 hn3d HJ0 HK cbc1 HNU hW
  gi_wp2
  refine wpIn_wide.2 ?_
  refine region_inv2 (by kernel_rfl) [(18, One1 ga me), (24, Heads ga me (.slice A nr c) (.slice A3 n3 c3))] [(14, .pointer (some ⟨g, 0, none⟩)), (15, .pointer (some ⟨g, 0, none⟩)), (16, .pointer (some ⟨g, 0, none⟩)), (17, .int .u8 (me : Int)), (19, .pointer (some ⟨g, 0, none⟩)), (20, .pointer (some ⟨g, 0, none⟩)), (21, .pointer (some ⟨g, 1, none⟩)), (22, .slice A nr c), (23, .slice A3 n3 c3), (25, .int .i64 3), (26, .int .i64 0)] (by kernel_rfl) (by kernel_rfl) rfl (by kernel_rfl) ?_ ?_ ?_
  · intro q hq
    rcases List.mem_cons.1 hq with rfl | hq
    · exact One1.below_ _ _
    obtain rfl := List.mem_singleton.1 hq
    exact Heads.below_ _ _ _ _
  · refine And.intro ?_ ?_
    · intro d hd ρ W hcs bw hn hg
      cases hd
      have e2 : ρ (.tmp 2) = .pointer (some ⟨bm, 0, none⟩) := hn 2 (by decide)
      clear hn hg
      refine .inl ⟨trivial, ?_⟩
      have z0 : W.cell? ⟨bm, 0, none⟩ = some (.pointer (some ⟨g, 0, none⟩)) := (bw.cell (p := ⟨bm, 0, none⟩) (cell_lt2 cbm2)).trans cbm2
      refine .inl ⟨.pointer (some ⟨g, 0, none⟩), W, ?_, rfl, Below.refl _ _⟩
      go_simp
    refine And.intro ?_ ?_
    · intro d hd ρ W hcs bw hn hg
      cases hd
      have e14 : ρ (.tmp 14) = .pointer (some ⟨g, 0, none⟩) := hn 14 (by decide)
      clear hn hg
      refine .inl ⟨trivial, ?_⟩
      refine .inl ⟨.pointer (some ⟨g, 0, none⟩), W, ?_, rfl, Below.refl _ _⟩
      go_simp
    refine And.intro ?_ ?_
    · intro d hd ρ W hcs bw hn hg
      cases hd
      have e15 : ρ (.tmp 15) = .pointer (some ⟨g, 0, none⟩) := hn 15 (by decide)
      clear hn hg
      refine .inl ⟨trivial, ?_⟩
      refine .inl ⟨.pointer (some ⟨g, 0, none⟩), W, ?_, rfl, Below.refl _ _⟩
      go_simp
    refine And.intro ?_ ?_
    · intro d hd ρ W hcs bw hn hg
      cases hd
      have e16 : ρ (.tmp 16) = .pointer (some ⟨g, 0, none⟩) := hn 16 (by decide)
      clear hn hg
      refine .inl ⟨trivial, ?_⟩
      have z0 : W.cell? ⟨g, 0, none⟩ = some (.int .u8 (me : Int)) := (bw.cell (p := ⟨g, 0, none⟩) (cell_lt2 cg02)).trans cg02
      refine .inl ⟨.int .u8 (me : Int), W, ?_, rfl, Below.refl _ _⟩
      go_simp
    refine And.intro ?_ ?_
    · intro d hd ρ W hcs bw hn hg
      cases hd
      have e17 : ρ (.tmp 17) = .int .u8 (me : Int) := hn 17 (by decide)
      clear hn hg
      refine .inl ⟨trivial, ?_⟩
      have hbA : Below W.heap.size W (W.alloc (.cells #[.int .u8 (me : Int)] 5)) := (Below.refl _ W).alloc (Nat.le_refl _) _
      refine .inl ⟨.slice (some ⟨W.heap.size, 0, none⟩) 1 1, W.alloc (.cells #[.int .u8 (me : Int)] 5), ?_, ⟨W.heap.size, rfl, Blk.new W 5 _, by have := bw.size; have := HW2.out; simp at *; omega⟩, hbA⟩
      go_simp
    refine And.intro ?_ ?_
    · intro d hd ρ W hcs bw hn hg
      cases hd
      have e2 : ρ (.tmp 2) = .pointer (some ⟨bm, 0, none⟩) := hn 2 (by decide)
      clear hn hg
      refine .inl ⟨trivial, ?_⟩
      have z0 : W.cell? ⟨bm, 0, none⟩ = some (.pointer (some ⟨g, 0, none⟩)) := (bw.cell (p := ⟨bm, 0, none⟩) (cell_lt2 cbm2)).trans cbm2
      refine .inl ⟨.pointer (some ⟨g, 0, none⟩), W, ?_, rfl, Below.refl _ _⟩
      go_simp
    refine And.intro ?_ ?_
    · intro d hd ρ W hcs bw hn hg
      cases hd
      have e19 : ρ (.tmp 19) = .pointer (some ⟨g, 0, none⟩) := hn 19 (by decide)
      clear hn hg
      refine .inl ⟨trivial, ?_⟩
      refine .inl ⟨.pointer (some ⟨g, 0, none⟩), W, ?_, rfl, Below.refl _ _⟩
      go_simp
    refine And.intro ?_ ?_
    · intro d hd ρ W hcs bw hn hg
      cases hd
      have e20 : ρ (.tmp 20) = .pointer (some ⟨g, 0, none⟩) := hn 20 (by decide)
      clear hn hg
      refine .inl ⟨trivial, ?_⟩
      refine .inl ⟨.pointer (some ⟨g, 1, none⟩), W, ?_, rfl, Below.refl _ _⟩
      go_simp
    refine And.intro ?_ ?_
    · intro d hd ρ W hcs bw hn hg
      cases hd
      have e21 : ρ (.tmp 21) = .pointer (some ⟨g, 1, none⟩) := hn 21 (by decide)
      clear hn hg
      refine .inl ⟨trivial, ?_⟩
      have z0 : W.cell? ⟨g, 1, none⟩ = some (.slice A nr c) := (bw.cell (p := ⟨g, 1, none⟩) (cell_lt2 cg12)).trans cg12
      refine .inl ⟨.slice A nr c, W, ?_, rfl, Below.refl _ _⟩
      go_simp
    refine And.intro ?_ ?_
    · intro d hd ρ W hcs bw hn hg
      cases hd
      have e5 : ρ (.tmp 5) = .slice A3 n3 c3 := hn 5 (by decide)
      clear hn hg
      refine .inl ⟨trivial, ?_⟩
      refine .inl ⟨_, W, rfl, e5, Below.refl _ _⟩
    refine And.intro ?_ ?_
    · intro d hd ρ W hcs bw hn hg
      cases hd
      have e18 : (One1 ga me) (ρ (.tmp 18)) W := hn 18 (by decide)
      have e22 : ρ (.tmp 22) = .slice A nr c := hn 22 (by decide)
      have e23 : ρ (.tmp 23) = .slice A3 n3 c3 := hn 23 (by decide)
      clear hn hg
      refine .inl ⟨trivial, ?_⟩
      obtain ⟨h1, er, k1, hn1⟩ := e18
      have hbA : Below W.heap.size W (W.alloc (.cells #[.slice (some ⟨h1, 0, none⟩) 1 1, .slice A nr c, .slice A3 n3 c3] 22)) := (Below.refl _ W).alloc (Nat.le_refl _) _
      refine .inl ⟨.slice (some ⟨W.heap.size, 0, none⟩) 3 3, W.alloc (.cells #[.slice (some ⟨h1, 0, none⟩) 1 1, .slice A nr c, .slice A3 n3 c3] 22), ?_, ⟨W.heap.size, h1, rfl, Blk.new W 22 _, by have := bw.size; have := HW2.out; simp at *; omega, k1.below hbA k1.lt, hn1⟩, hbA⟩
      go_simp
    refine And.intro ?_ ?_
    · intro d hd ρ W hcs bw hn hg
      cases hd
      have e24 : (Heads ga me (.slice A nr c) (.slice A3 n3 c3)) (ρ (.tmp 24)) W := hn 24 (by decide)
      clear hn hg
      refine .inl ⟨trivial, ?_⟩
      obtain ⟨hb1, h1, er, _⟩ := e24
      refine .inl ⟨.int .i64 3, W, ?_, rfl, Below.refl _ _⟩
      go_simp
    refine And.intro ?_ ?_
    · intro d hd ρ W hcs bw hn hg
      cases hd
      clear hn hg
      refine .inl ⟨trivial, ?_⟩
      refine .inl ⟨_, W, rfl, hcs.1 _, Below.refl _ _⟩
    trivial
  · intro a' w' hsz hdf hb hVs
    have hq24 : Heads ga me (.slice A nr c) (.slice A3 n3 c3) (a'.eval (.tmp 24)) w' := hVs 24
    have q25 : a'.eval (.tmp 25) = .int .i64 3 := hVs 25
    have q26 : a'.eval (.tmp 26) = .int .i64 0 := hVs 26
    have ha := slot_over_seg 14 13 [] rfl (by kernel_rfl) (of_decide_eq_true (by kernel_rfl)) hsz hdf hVs
    clear hVs hsz hdf
    rw [show List.range' 14 13 = [14, 15, 16, 17, 18, 19, 20, 21, 22, 23, 24, 25, 26] from rfl] at ha
    simp only [List.take_succ_cons, List.take_zero, List.drop_succ_cons, List.drop_zero, List.map_cons, List.map_nil, List.cons_append, List.nil_append, List.foldl_cons, List.foldl_nil, List.set_cons_zero, List.set_cons_succ, q25, q26] at ha
    clear q25 q26
    generalize a'.eval (.tmp 14) = x14 at ha
    generalize a'.eval (.tmp 15) = x15 at ha
    generalize a'.eval (.tmp 16) = x16 at ha
    generalize a'.eval (.tmp 17) = x17 at ha
    generalize a'.eval (.tmp 18) = x18 at ha
    generalize a'.eval (.tmp 19) = x19 at ha
    generalize a'.eval (.tmp 20) = x20 at ha
    generalize a'.eval (.tmp 21) = x21 at ha
    generalize a'.eval (.tmp 22) = x22 at ha
    generalize a'.eval (.tmp 23) = x23 at ha
    generalize a'.eval (.tmp 24) = x24 at ha
    subst ha
    obtain ⟨hb0, h1, hx24, kh, hhb, kone, hh1⟩ := hq24
    subst hx24
    have hbz : Below w2.heap.size w2 w' := (below_drewN (Below.refl _ w2) 1).trans hb
    have HKB : Hid (KpC ga w2 w') := KpC.of_below hbz
    have HK1 : Hid (KpC ga w0 w') := HK2.out.trans HKB.out
    have HJ1 := Lib.hid (HJ.out w2 w' _ HJ2.out hbz)
    obtain ⟨hd, hhd⟩ : ∃ hd : Addr, hd = ⟨hb0, 0, none⟩ := ⟨_, rfl⟩
    have HHD : Hid (∀ j, hd.add j = ⟨hb0, j, none⟩) := fun j => by subst hhd; unfold Addr.add; by_cases h : j = 0 <;> simp [h]
    have HNH : Hid (hd.block ≠ ga) := by rw [hhd]; exact hhb
    rw [← hhd]
    have HLS : Hid (∀ k, k < 3 → ∃ A n c, w'.cell? (hd.add k) = some (.slice A n c) ∧ Lst ga w' A n (lkT me row L k) ∧ n ≤ 100) := fun k hk => by
      rw [HHD.out]
      match k, hk with
      | 0, _ => exact ⟨_, _, _, kh.cell 0, ⟨rfl, fun j x hx => by
          have hj : j < 1 := (List.getElem?_eq_some_iff.1 hx).1
          obtain rfl : j = 0 := by omega
          obtain rfl : me = x := by simpa [lkT] using hx
          exact ⟨_, rfl, hh1, by rw [show (⟨h1, 0, none⟩ : Addr).add 0 = ⟨h1, 0, none⟩ by simp [Addr.add]]; exact kone.cell 0⟩⟩, by omega⟩
      | 1, _ => exact ⟨_, _, _, kh.cell 1, HLR.out.kp HK1.out, by rw [← HLR.out.1]; exact HROW.out.2.2⟩
      | 2, _ => exact ⟨_, _, _, kh.cell 2, HL3.out.kp HKB.out, by omega⟩
    have cbc1 := HK1.out _ _ HNE.out.2.1 cbc
    clear hhd hhb kh kone hh1 hb hbz HL3 HLR HJ2 HK2 HN3 HW2 cbm2 cg02 cg12 HKB cg0 cg1 cbm
    gi_wp2
    gi_loopw [4, 26] (fun s k wr => ∃ i : Nat, i ≤ 3 ∧ k = .int .i64 (i : Int) ∧ s = .int .u8 ((setN (outT L (pfxT me row L i)) : Nat) : Int) ∧ J (outT L (pfxT me row L i)) wr ∧ KpC ga w' wr) (fun s k wr => 3 - (intOf k).toNat)
    case atStart => exact ⟨0, by omega, rfl, rfl, HJ1.out, KpC.refl _ _⟩
    case round =>
      clear HJ1
      obtain ⟨i, hi, rfl, rfl, hJk, hkr⟩ := hrel
      by_cases hi3 : i < 3
      · have hi3i : (i : Int) < 3 := by omega
        obtain ⟨Ai, ni, ci, hci, hli, hni⟩ := HLS.out i hi3
        have c0 := hkr (hd.add i) _ (by rw [block_of_add]; exact HNH.out) hci
        obtain ⟨l1, hl1⟩ : ∃ l1, l1 = lkT me row L i := ⟨_, rfl⟩
        obtain ⟨p1, hp1⟩ : ∃ p1, p1 = pfxT me row L i := ⟨_, rfl⟩
        have HP : Hid (pfxT me row L (i + 1) = p1 ++ l1) := by show _ = _; rw [hp1, hl1]; exact pfx_succ me row L hi3
        have HPA : Hid (∀ xs, xs <+: l1 → outT L (p1 ++ xs) <+: T) := fun xs hxs => by
          rw [hp1]
          obtain ⟨t, ht⟩ := pfx_all me row L i xs hi3 (by rw [← hl1]; exact hxs)
          rw [HT.out, ← ht]
          exact out_prefix L _ _
        have HLT : Hid (∀ x ∈ l1, x < 7) := by rw [hl1, HL.out]; exact pfx_lt HROW.out.1 HROW.out.2.1 i
        rw [← hl1] at hli
        rw [← hp1] at hJk ⊢
        have HLI := Lib.hid hli
        have HJK := Lib.hid hJk
        have HKR := Lib.hid hkr
        have HI := Lib.hid hi
        clear hci hli hl1 hp1 hJk hi hkr
        gi_wp2
        clear c0
        gi_loopw [4, 32] (fun s k wr2 => ∃ j : Nat, j ≤ ni ∧ k = .int .i64 (j : Int) ∧ s = .int .u8 ((setN (outT L (p1 ++ l1.take j)) : Nat) : Int) ∧ J (outT L (p1 ++ l1.take j)) wr2 ∧ KpC ga w' wr2) (fun s k wr2 => ni - (intOf k).toNat)
        case atStart => exact ⟨0, by omega, rfl, by simp, by simpa using HJK.out, HKR.out⟩
        case round =>
          clear HJK HKR
          obtain ⟨j, hj, rfl, rfl, hJk, hkr⟩ := hrel
          by_cases hjn : j < ni
          · have hjni : (j : Int) < (ni : Int) := by omega
            obtain ⟨x, hx⟩ : ∃ x, l1[j]? = some x := ⟨_, List.getElem?_eq_getElem (by rw [HLI.out.1]; exact hjn)⟩
            obtain ⟨ad, rfl, hadn, hadc⟩ := HLI.out.2 j x hx
            have c0 := hkr (ad.add j) _ (by rw [block_of_add]; exact hadn) hadc
            have c1 := hkr _ _ HNE.out.2.1 cbc1
            have hx7 := HLT.out x (List.mem_of_getElem? hx)
            have htk : l1.take (j + 1) = l1.take j ++ [x] := by rw [List.take_add_one, hx]; rfl
            have hsn : outT L (p1 ++ l1.take (j + 1)) = ahF L (outT L (p1 ++ l1.take j)) x := by rw [htk, ← List.append_assoc]; exact out_snoc L _ x
            have hpf := HPA.out (l1.take (j + 1)) (List.take_prefix _ _)
            obtain ⟨out, hout⟩ : ∃ o, o = outT L (p1 ++ l1.take j) := ⟨_, rfl⟩
            rw [← hout] at hJk hsn ⊢
            have HH1 := Lib.hid (has_b cf x HCF.out (by omega) wr)
            have HH2 := Lib.hid (fun W => has_b (setN out) x (by have := set_lt out; omega) (by omega) W)
            rw [has_ref, ← HL.out] at HH1
            rw [has_set out hx7] at HH2
            have HX7 := Lib.hid hx7
            have HJK := Lib.hid hJk
            have HKR := Lib.hid hkr
            have HOUT := Lib.hid hout
            have HJN := Lib.hid hjn
            by_cases hl1x : hasL L x = true
            rotate_left
            · have hf : hasL L x = false := by simpa using hl1x
              rw [hf] at HH1
              have HE : Hid (outT L (p1 ++ l1.take (j + 1)) = out) := by show _ = _; rw [hsn]; exact if_neg (fun h => hl1x h.1)
              clear hsn hpf hout hx htk hadc hf hl1x HH2 hJk hkr
              gi_wp2
              refine ⟨trivial, (fun h => by cases h), ?_⟩
              refine (callsIn_wide.2 HH1.out).mono ?_; rintro e w3 ⟨rfl, B3⟩
              have HJ3 := Lib.hid (HJ.out _ _ _ HJK.out B3)
              have HK3 : Hid (KpC ga w' w3) := HKR.out.trans (KpC.of_below B3)
              clear HH1 HJK HKR B3
              gi_wp2
              refine ⟨trivial, ?_⟩
              gi_wp2
              exact ⟨⟨j + 1, by have := HJN.out; omega, by go_num, by rw [HE.out], by rw [HE.out]; exact HJ3.out, HK3.out⟩, by have := HJN.out; simp [intOf] at *; omega⟩
            rw [hl1x] at HH1
            by_cases hl2x : hasL out x = true
            · rw [hl2x] at HH2
              have HE : Hid (outT L (p1 ++ l1.take (j + 1)) = out) := by show _ = _; rw [hsn]; exact if_neg (fun h => by rw [hl2x] at h; exact absurd h.2 (by decide))
              clear hsn hpf hout hx htk hadc hl1x hl2x hJk hkr
              gi_wp2
              refine ⟨trivial, (fun h => by cases h), ?_⟩
              refine (callsIn_wide.2 HH1.out).mono ?_; rintro e w3 ⟨rfl, B3⟩
              have HJ3 := Lib.hid (HJ.out _ _ _ HJK.out B3)
              have HK3 : Hid (KpC ga w' w3) := HKR.out.trans (KpC.of_below B3)
              clear HH1 HJK HKR B3
              gi_wp2
              refine ⟨trivial, (fun h => by cases h), ?_⟩
              refine (callsIn_wide.2 (HH2.out _)).mono ?_; rintro e w4 ⟨rfl, B4⟩
              have HJ4 := Lib.hid (HJ.out _ _ _ HJ3.out B4)
              have HK4 : Hid (KpC ga w' w4) := HK3.out.trans (KpC.of_below B4)
              clear HH2 HJ3 HK3 B4
              gi_wp2
              exact ⟨⟨j + 1, by have := HJN.out; omega, by go_num, by rw [HE.out], by rw [HE.out]; exact HJ4.out, HK4.out⟩, by have := HJN.out; simp [intOf] at *; omega⟩
            have hf2 : hasL out x = false := by simpa using hl2x
            rw [hf2] at HH2
            have hE : outT L (p1 ++ l1.take (j + 1)) = out ++ [x] := by rw [hsn]; exact if_pos ⟨hl1x, hf2⟩
            have HE := Lib.hid hE
            have HPF : Hid (out ++ [x] <+: T) := by show _ <+: _; rw [← hE]; exact hpf
            have HPF2 := HPF
            have HSS := Lib.hid (set_snoc out x)
            have HOF := Lib.hid (fun W : World => of_any (some ⟨W.heap.size, 0, none⟩) 1 1 [x] rfl (by simp; omega) (W.alloc (.cells #[.int .u8 (x : Int)] 5)) (nums_of W _ rfl [_] 5 [x] rfl) (by unfold maxLen; simp))
            have HWI := Lib.hid (fun W : World => with_any (setN out) (ofN [x]) (by have := set_lt out; omega) (by have := of_lt [x]; omega) W)
            clear hsn hpf hout hx htk hadc hl1x hl2x hf2 hE hJk hkr hx7
            gi_wp2
            refine ⟨trivial, (fun h => by cases h), ?_⟩
            refine (callsIn_wide.2 HH1.out).mono ?_; rintro e w3 ⟨rfl, B3⟩
            have HJ3 := Lib.hid (HJ.out _ _ _ HJK.out B3)
            have HK3 : Hid (KpC ga w' w3) := HKR.out.trans (KpC.of_below B3)
            clear HH1 HJK HKR B3
            gi_wp2
            refine ⟨trivial, (fun h => by cases h), ?_⟩
            refine (callsIn_wide.2 (HH2.out _)).mono ?_; rintro e w4 ⟨rfl, B4⟩
            have hA4 : Below w4.heap.size w4 (w4.alloc (.cells #[.int .u8 (x : Int)] 5)) := (Below.refl _ w4).alloc (Nat.le_refl _) _
            have hJ4 := HJ.out _ _ _ HJ3.out (B4.trans (hA4.mono B4.size))
            have HK4 : Hid (KpC ga w' (w4.alloc (.cells #[.int .u8 (x : Int)] 5))) := HK3.out.trans (KpC.of_below (B4.trans (hA4.mono B4.size)))
            have HOF4 := Lib.hid (HOF.out w4)
            obtain ⟨fn, tmps, assign, body, hy, hR⟩ := HY.out _ x _ HX7.out hJ4 HPF.out
            have HR := Lib.hid hR
            clear HH2 HJ3 HK3 B4 hA4 HOF hR hJ4 c1 HPF
            gi_wp2
            refine ⟨trivial, (fun h => by cases h), ?_⟩
            refine (callsIn_wide.2 HOF4.out).mono ?_; rintro e w5 ⟨rfl, rfl⟩
            clear HOF4
            gi_wp2
            refine ⟨trivial, (fun h => by cases h), ?_⟩
            refine (callsIn_wide.2 (HWI.out _)).mono ?_; rintro e w5 ⟨rfl, rfl⟩
            clear HWI
            rw [HSS.out]
            gi_wp2
            refine ⟨(fun h => by cases h), ?_⟩
            refine HR.out.mono ?_
            rintro e W3 (⟨rfl, hJ3, hK3⟩ | ⟨rfl, hJ3⟩)
            · have HJ5 := Lib.hid hJ3
              have HK5 := Lib.hid (HK4.out.trans hK3)
              clear hJ3 hK3 HK4 HR hy
              gi_wp2
              exact ⟨⟨j + 1, by have := HJN.out; omega, by go_num, by rw [HE.out], by rw [HE.out]; exact HJ5.out, HK5.out⟩, by have := HJN.out; simp [intOf] at *; omega⟩
            · gi_wp2
              refine bodyPost_ret (results_none rfl _ _ _) rfl ?_
              exact ⟨⟨_, rfl⟩, .inr ⟨_, HPF2.out, hJ3⟩⟩
          · have hjni : ¬ (j : Int) < (ni : Int) := by omega
            have hend : p1 ++ l1.take j = pfxT me row L (i + 1) := by rw [HP.out, List.take_of_length_le (by rw [HLI.out.1]; omega)]
            rw [hend] at hJk ⊢
            have HJK := Lib.hid hJk
            have HKR := Lib.hid hkr
            clear hend hJk hkr
            gi_wp2
            exact ⟨⟨i + 1, by omega, by go_num, rfl, HJK.out, HKR.out⟩, by simp [intOf]; omega⟩
      · have hi3i : ¬ (i : Int) < 3 := by omega
        obtain rfl : i = 3 := by omega
        rw [← HT.out] at hJk
        have HJK := Lib.hid hJk
        clear hJk hkr
        gi_wp2
        go_end0
        exact ⟨⟨_, rfl⟩, .inl HJK.out⟩
end Go.Proofs.Ytbamfnlgapchkaa.Thr
