/- Package chain, walked: Release, Tail, Copy, Of. Conditions: the chain lies in memory of its own. -/
import Derived.Test.YtbamfnlgapchkaaChW
namespace Go.Proofs.Ytbamfnlgapchkaa.Chn
open Go.RowKit Mem DrawInv

def cut1 (a : Option Addr) (l cap : Nat) : Option Addr := if cap = l then a else a.map (·.add (l * 1))
theorem elem_sl : Try.prog.elem 105 = 27 := by kernel_rfl
theorem ht_sl : Try.prog.underlying 105 = some (.slice (Try.prog.elem 105)) := by rw [elem_sl]; exact Try.underlying105
theorem size_sl (w : World) : (sizeOf (Try.prog.elem 105)).run Try.prog w = .ok 1 w := by
  obtain ⟨i, hi, _, hs, _⟩ := info_set
  rw [elem_sl]
  simp [sizeOf, typeInfo, hi, hs]
theorem sl_from (a : Option Addr) (n cap l : Nat) (hl : l ≤ n) (_hn : n ≤ cap) (w : World) : (Instr.slice 105 (.slice a n cap) (some (.int .i64 (l : Int))) none none).run Try.prog w = .ok (.slice (cut1 a l cap) (n - l) (cap - l)) w := by
  rw [run_slice_l w 105 a n cap ht_sl .i64 (l : Int) (by omega) (by omega), size_sl]
  simp only [Result.andThen, sliced, Int.toNat_natCast, cut1]
theorem sl_fromU (a : Option Addr) (n cap l : Nat) (hl : l ≤ n) (_hn : n ≤ cap) (w : World) : (Instr.slice 105 (.slice a n cap) (some (.int .u64 (l : Int))) none none).run Try.prog w = .ok (.slice (cut1 a l cap) (n - l) (cap - l)) w := by
  rw [run_slice_l w 105 a n cap ht_sl .u64 (l : Int) (by omega) (by omega), size_sl]
  simp only [Result.andThen, sliced, Int.toNat_natCast, cut1]
theorem cut1_reads {w : World} {A : Option Addr} {n cap l : Nat} {xs : List Nat} (h : Reads w w.heap.size 1 A n (xs.map u8v)) (hl : l ≤ n) (hc : n ≤ cap) : Reads w w.heap.size 1 (cut1 A l cap) (n - l) ((xs.drop l).map u8v) := by
  have := h.cut hl hc
  rw [Nat.mul_one, ← List.map_drop] at this
  unfold cut1
  rw [Nat.mul_one]
  exact this
theorem own_empty (w : World) : (w.alloc (.cells #[] 27)).ownsRow w.heap.size 27 1 (.slice (some ⟨w.heap.size, 0, none⟩) 0 0) 0 [] :=
  own1_of_blk (Blk.new w 27 #[]) (Nat.le_refl _) rfl rfl (by unfold maxLen; omega)
set_option maxRecDepth 100000 in
set_option maxHeartbeats 4000000 in
theorem clone_any (xs : List Nat) (n : Nat) (h0 : 0 < n) (hn : n ≤ 100000) (A : Option Addr) (c : Nat) (w : World) (hr : Reads w w.heap.size 1 A n (xs.map u8v)) :
    Calls Try.prog 74 #[.slice A n c] w fun e w' => ∃ v, e = .returned v ∧ w'.ownsRow w.heap.size 27 1 v n (xs.map u8v) ∧ Below w.heap.size w w' := by
  obtain ⟨ad, rfl, _⟩ := hr.2 h0
  obtain ⟨i, hi, hz, hs, hby⟩ := info_set
  have hb : Below w.heap.size w (w.alloc (.cells #[] 27)) := (Below.refl _ w).alloc (Nat.le_refl _) _
  obtain ⟨v, w2, happ, hown, hgr, _⟩ := run_append_any (P := Try.prog) (w.alloc (.cells #[] 27)) w.heap.size 105 105 27 i (.int .u8 0) 1 1 Try.underlying105 hi hz hs hby rfl (by omega) _ 0 [] (own_empty w) _ _ n c _ (hr.below hb) (one_u8v xs) (by unfold maxLen; omega) (by omega) hb.size
  rw [Nat.zero_add, List.nil_append] at hown
  have hq : (binOp .eql 105 (.slice (some ad) n c) (.slice none 0 0)).run Try.prog w = .ok (.bool false) w := Lib.run_eql_slice_nil (P := Try.prog) w 105 27 (some ad) n c 0 0 Try.underlying105
  have hbz : (Instr.buildSlice 105 0 #[]).run Try.prog w = .ok (.slice (some ⟨w.heap.size, 0, none⟩) 0 0) (w.alloc (.cells #[] 27)) := by go_simp
  have HB := Lib.hid (hb.grown hgr hb.size (fun k hk => by cases hk; exact Nat.le_refl _))
  have HO := Lib.hid hown
  clear hgr hown hr
  go_enter Try.func74, Try.ntmps74
  go_wp2_with (refine wpList_run_append (by rfl) (.tmp 5) (.tmp 6) 105 (by rfl) (by rfl) (by rfl) happ ?_)
  go_ret
  exact ⟨_, rfl, HO.out, HB.out⟩
/-- A chain of its own, new. -/
def NewCh (B : Nat) (c : Ch) (u : Value) (w : World) : Prop := ∃ g r, u = .pointer (some ⟨g, 0, none⟩) ∧ ChS B g c r w
theorem NewCh.below_ (B : Nat) (c : Ch) (u : Value) (w w' : World) (h : NewCh B c u w) (hb : Below w.heap.size w w') : NewCh B c u w' := by
  obtain ⟨g, r, e, q⟩ := h
  exact ⟨g, r, e, q.below hb⟩
def RowOf (B n : Nat) (xs : List Value) (u : Value) (w : World) : Prop := w.ownsRow B 27 1 u n xs
theorem RowOf.below_ (B n : Nat) (xs : List Value) (u : Value) (w w' : World) (h : RowOf B n xs u w) (hb : Below w.heap.size w w') : RowOf B n xs u w' := own1_below h hb (fun r hr => (World.ownsRow.lt h r hr).2)
def AggOf (B n : Nat) (lo : Int) (xs : List Value) (u : Value) (w : World) : Prop := ∃ r, u = .agg #[.int .u64 lo, r] ∧ RowOf B n xs r w
theorem AggOf.below_ (B n : Nat) (lo : Int) (xs : List Value) (u : Value) (w w' : World) (h : AggOf B n lo xs u w) (hb : Below w.heap.size w w') : AggOf B n lo xs u w' := by
  obtain ⟨r, e, q⟩ := h
  exact ⟨r, e, q.below_ _ _ _ _ _ _ hb⟩
set_option linter.unusedVariables false in
set_option maxRecDepth 100000 in
set_option maxHeartbeats 4000000 in
theorem copy_any {B g : Nat} {c : Ch} {v : Value} {w : World} (q : ChS B g c v w) : Calls Try.prog 28 #[.pointer (some ⟨g, 0, none⟩)] w fun e w' => ∃ u, e = .returned u ∧ NewCh w.heap.size c u w' ∧ Below w.heap.size w w' := by
  obtain ⟨A, n, cp, rfl, HN, hnc, hn0, hn1, hr⟩ := q.slice
  have kg : Blk w.drew g 107 #[.int .u64 (c.low : Int), .slice A n cp] := q.hg
  have hrd : Reads w.drew w.drew.heap.size 1 A n (c.dirs.map u8v) := hr
  have HOK := Lib.hid q.ok
  have HC := Lib.hid (fun (W : World) (h : Reads W W.heap.size 1 A n (c.dirs.map u8v)) => clone_any c.dirs n hn0 (by omega) A cp W h)
  clear q hr
  obtain ⟨lo, hlo⟩ : ∃ lo, lo = c.low := ⟨_, rfl⟩
  rw [← hlo] at kg
  have HLO := Lib.hid hlo
  clear hlo
  go_enter Try.func28, Try.ntmps28
  go_upto_region 3 with fail
  refine region_inv2 (by kernel_rfl) [(13, RowOf w.heap.size n (c.dirs.map u8v)), (14, AggOf w.heap.size n (lo : Int) (c.dirs.map u8v)), (15, NewCh w.heap.size c), (2, NewCh w.heap.size c)] [(5, .pointer (some ⟨g, 0, none⟩)), (6, .pointer (some ⟨g, 0, none⟩)), (7, .pointer (some ⟨g, 0, none⟩)), (8, .int .u64 (lo : Int)), (9, .pointer (some ⟨g, 0, none⟩)), (10, .pointer (some ⟨g, 0, none⟩)), (11, .pointer (some ⟨g, 1, none⟩)), (12, .slice A n cp)] (by kernel_rfl) (by kernel_rfl) rfl (by kernel_rfl) ?_ ?_ ?_
  · intro q hq
    rcases List.mem_cons.1 hq with rfl | hq
    · exact RowOf.below_ _ _ _
    rcases List.mem_cons.1 hq with rfl | hq
    · exact AggOf.below_ _ _ _ _
    rcases List.mem_cons.1 hq with rfl | hq
    · exact NewCh.below_ _ _
    obtain rfl := List.mem_singleton.1 hq
    exact NewCh.below_ _ _
  · refine And.intro ?_ ?_
    · intro d hd ρ W hcs bw hn hg
      cases hd
      have e0 : ρ (.tmp 0) = .pointer (some ⟨g, 0, none⟩) := hn 0 (by decide)
      clear hn hg
      refine .inl ⟨trivial, ?_⟩
      refine .inl ⟨_, W, rfl, e0, Below.refl _ _⟩
    refine And.intro ?_ ?_
    · intro d hd ρ W hcs bw hn hg
      cases hd
      have e5 : ρ (.tmp 5) = .pointer (some ⟨g, 0, none⟩) := hn 5 (by decide)
      clear hn hg
      refine .inl ⟨trivial, ?_⟩
      refine .inl ⟨.pointer (some ⟨g, 0, none⟩), W, ?_, rfl, Below.refl _ _⟩
      go_simp
    refine And.intro ?_ ?_
    · intro d hd ρ W hcs bw hn hg
      cases hd
      have e6 : ρ (.tmp 6) = .pointer (some ⟨g, 0, none⟩) := hn 6 (by decide)
      clear hn hg
      refine .inl ⟨trivial, ?_⟩
      refine .inl ⟨.pointer (some ⟨g, 0, none⟩), W, ?_, rfl, Below.refl _ _⟩
      go_simp
    refine And.intro ?_ ?_
    · intro d hd ρ W hcs bw hn hg
      cases hd
      have e7 : ρ (.tmp 7) = .pointer (some ⟨g, 0, none⟩) := hn 7 (by decide)
      clear hn hg
      refine .inl ⟨trivial, ?_⟩
      have z0 : W.cell? ⟨g, 0, none⟩ = some (.int .u64 (lo : Int)) := (Blk.below kg bw (Blk.lt kg)).cell 0
      refine .inl ⟨.int .u64 (lo : Int), W, ?_, rfl, Below.refl _ _⟩
      go_simp
    refine And.intro ?_ ?_
    · intro d hd ρ W hcs bw hn hg
      cases hd
      have e0 : ρ (.tmp 0) = .pointer (some ⟨g, 0, none⟩) := hn 0 (by decide)
      clear hn hg
      refine .inl ⟨trivial, ?_⟩
      refine .inl ⟨_, W, rfl, e0, Below.refl _ _⟩
    refine And.intro ?_ ?_
    · intro d hd ρ W hcs bw hn hg
      cases hd
      have e9 : ρ (.tmp 9) = .pointer (some ⟨g, 0, none⟩) := hn 9 (by decide)
      clear hn hg
      refine .inl ⟨trivial, ?_⟩
      refine .inl ⟨.pointer (some ⟨g, 0, none⟩), W, ?_, rfl, Below.refl _ _⟩
      go_simp
    refine And.intro ?_ ?_
    · intro d hd ρ W hcs bw hn hg
      cases hd
      have e10 : ρ (.tmp 10) = .pointer (some ⟨g, 0, none⟩) := hn 10 (by decide)
      clear hn hg
      refine .inl ⟨trivial, ?_⟩
      refine .inl ⟨.pointer (some ⟨g, 1, none⟩), W, ?_, rfl, Below.refl _ _⟩
      go_simp
    refine And.intro ?_ ?_
    · intro d hd ρ W hcs bw hn hg
      cases hd
      have e11 : ρ (.tmp 11) = .pointer (some ⟨g, 1, none⟩) := hn 11 (by decide)
      clear hn hg
      refine .inl ⟨trivial, ?_⟩
      have z0 : W.cell? ⟨g, 1, none⟩ = some (.slice A n cp) := (Blk.below kg bw (Blk.lt kg)).cell 1
      refine .inl ⟨.slice A n cp, W, ?_, rfl, Below.refl _ _⟩
      go_simp
    refine And.intro ?_ ?_
    · intro d hd ρ W hcs bw hn hg
      cases hd
      have e12 : ρ (.tmp 12) = .slice A n cp := hn 12 (by decide)
      clear hn hg
      refine .inl ⟨trivial, ?_⟩
      have ef : ρ (.func 74) = .func (.func 74) #[] #[] := hcs.2 _
      refine .inr ⟨74, #[.slice A n cp], ?_, (HC.out W ((hrd.below bw).more bw.size)).mono ?_⟩
      · go_simp
      · rintro e w2 ⟨u, rfl, ho, B2⟩
        exact ⟨_, rfl, ho.mono bw.size, B2⟩
    refine And.intro ?_ ?_
    · intro d hd ρ W hcs bw hn hg
      cases hd
      have e8 : ρ (.tmp 8) = .int .u64 (lo : Int) := hn 8 (by decide)
      have e13 : (RowOf w.heap.size n (c.dirs.map u8v)) (ρ (.tmp 13)) W := hn 13 (by decide)
      clear hn hg
      refine .inl ⟨trivial, ?_⟩
      have e13' : RowOf w.heap.size n (c.dirs.map u8v) (ρ (.tmp 13)) W := e13
      obtain ⟨A13, c13, hc13, _⟩ := Byt.own_slice1 e13'
      rw [hc13] at e13'
      refine .inl ⟨.agg #[.int .u64 (lo : Int), .slice A13 n c13], W, ?_, ⟨_, rfl, e13'⟩, Below.refl _ _⟩
      clear e13 e13'
      go_simp
    refine And.intro ?_ ?_
    · intro d hd ρ W hcs bw hn hg
      cases hd
      have e14 : (AggOf w.heap.size n (lo : Int) (c.dirs.map u8v)) (ρ (.tmp 14)) W := hn 14 (by decide)
      clear hn hg
      refine .inl ⟨trivial, ?_⟩
      obtain ⟨r, er, hr15⟩ := e14
      have hbA : Below W.heap.size W (W.alloc (.cells #[.int .u64 (lo : Int), r] 107)) := (Below.refl _ W).alloc (Nat.le_refl _) _
      refine .inl ⟨.pointer (some ⟨W.heap.size, 0, none⟩), W.alloc (.cells #[.int .u64 (lo : Int), r] 107), ?_, ⟨W.heap.size, r, rfl, ⟨by rw [← HLO.out]; exact Blk.new W 107 _, by rw [HN.out]; exact RowOf.below_ _ _ _ _ _ _ hr15 hbA, bw.size, HOK.out⟩⟩, hbA⟩
      obtain ⟨A13, c13, hc13, _⟩ := Byt.own_slice1 hr15
      subst hc13
      go_simp
    refine And.intro ?_ ?_
    · intro d hd ρ W hcs bw hn hg
      cases hd
      have e15 : (NewCh w.heap.size c) (ρ (.tmp 15)) W := hn 15 (by decide)
      clear hn hg
      refine .inl ⟨trivial, ?_⟩
      refine .inl ⟨_, W, rfl, e15, Below.refl _ _⟩
    trivial
  · intro a' w' hsz hdf hb hVs
    have hp2 : NewCh w.heap.size c (a'.eval (.tmp 2)) w' := hVs 2
    have ha := slot_over_seg 5 11 [2] rfl (by kernel_rfl) (of_decide_eq_true (by kernel_rfl)) hsz hdf hVs
    clear hVs hsz hdf
    rw [show List.range' 5 11 = [5, 6, 7, 8, 9, 10, 11, 12, 13, 14, 15] from rfl] at ha
    simp only [List.take_succ_cons, List.take_zero, List.drop_succ_cons, List.drop_zero, List.map_cons, List.map_nil, List.cons_append, List.nil_append, List.foldl_cons, List.foldl_nil, List.set_cons_zero, List.set_cons_succ] at ha
    generalize a'.eval (.tmp 2) = x2 at ha
    generalize a'.eval (.tmp 5) = x5 at ha
    generalize a'.eval (.tmp 6) = x6 at ha
    generalize a'.eval (.tmp 7) = x7 at ha
    generalize a'.eval (.tmp 8) = x8 at ha
    generalize a'.eval (.tmp 9) = x9 at ha
    generalize a'.eval (.tmp 10) = x10 at ha
    generalize a'.eval (.tmp 11) = x11 at ha
    generalize a'.eval (.tmp 12) = x12 at ha
    generalize a'.eval (.tmp 13) = x13 at ha
    generalize a'.eval (.tmp 14) = x14 at ha
    generalize a'.eval (.tmp 15) = x15 at ha
    subst ha
    have bz : Below w.heap.size w w' := (below_drewN (Below.refl _ w) 1).trans (hb.mono (Nat.le_refl _))
    have HP := Lib.hid hp2
    clear hp2 hb kg hrd
    go_wp2_with fail
    go_ret
    exact ⟨_, rfl, HP.out, bz⟩
set_option linter.unusedVariables false in
set_option linter.unusedSimpArgs false in
set_option maxRecDepth 100000 in
set_option maxHeartbeats 4000000 in
theorem release_any {B g : Nat} {c : Ch} {v : Value} {w : World} (q : ChS B g c v w) (hB : B ≤ w.heap.size) (b : Nat) (hb64 : b < 18446744073709551616) : Calls Try.prog 24 #[.pointer (some ⟨g, 0, none⟩), .int .u64 (b : Int)] w fun e w' => e = .returned (.int .i64 ((c.release b).2 : Int)) ∧ ∃ v', ChS B g (c.release b).1 v' w' ∧ QStep g v w v' w' := by
  have hok := release_ok q.ok b
  have HT := Lib.hid (top_any q)
  have hup := q.ok.up
  unfold Ch.release at hok ⊢
  by_cases h1 : c.top < b
  · rw [if_pos h1]
    have h1i : (c.top : Int) < (b : Int) := by omega
    have HQ : Hid (∀ w', Below w.heap.size w w' → ∃ v', ChS B g c v' w' ∧ QStep g v w v' w') := fun w' hb => ⟨v, q.below hb, QStep.of_below hb⟩
    clear q hok h1 hup hb64
    generalize c.top = tp at *
    go_enter Try.func24, Try.ntmps24
    go_wp2_with fail
    refine HT.out.mono ?_; rintro e w2 ⟨rfl, B2⟩
    go_wp2_with fail
    go_ret
    exact ⟨rfl, HQ.out _ B2⟩
  rw [if_neg h1] at hok ⊢
  have h1i : ¬ (c.top : Int) < (b : Int) := by omega
  obtain ⟨lw, hlw⟩ : ∃ lw, lw = b - 2 := ⟨_, rfl⟩
  rw [← hlw] at hok ⊢
  obtain ⟨mx, hmx⟩ : ∃ mx, max ((b : Int) + 1) 3 = mx := ⟨_, rfl⟩
  have hw0 : IntKind.u64.wrap ((b : Int) + 1) = (b : Int) + 1 := by rw [IntKind.wrap_u64]; omega
  have hw1 : IntKind.u64.wrap (mx - 3) = (lw : Int) := by rw [IntKind.wrap_u64]; omega
  obtain ⟨A, n, cp, rfl, HN, hnc, hn0, hn1, hr⟩ := q.slice
  obtain ⟨lo, hlo⟩ : ∃ lo, lo = c.low := ⟨_, rfl⟩
  have hq := q.hg
  rw [← hlo] at hok hq ⊢
  by_cases h2 : lo < lw
  · rw [if_pos h2] at hok ⊢
    have h2i : (lo : Int) < (lw : Int) := by omega
    obtain ⟨d, hd⟩ : ∃ d, d = lw - lo := ⟨_, rfl⟩
    rw [← hd] at hok ⊢
    have hdn : d < n := by have h := HN.out; unfold Ch.top at h1; rw [h, ← hlo] at h1; omega
    have hw2 : IntKind.u64.wrap ((lw : Int) - (lo : Int)) = (d : Int) := by rw [IntKind.wrap_u64]; omega
    have HQ := Lib.hid (And.intro q hok)
    have HD := Lib.hid hdn
    have HLEN : Hid ((c.dirs.drop d).length = n - d) := by show _ = _; rw [List.length_drop, HN.out]
    clear hok h1 hlw hlo h2 hd hup hb64
    generalize c.top = tp at *
    go_enter Try.func24, Try.ntmps24
    go_upto_region 5 with (refine HT.out.mono ?_; rintro e w2 ⟨rfl, B2⟩)
    have q2 := HQ.out.1.below B2
    have hq2 := hq.below B2 hq.lt
    have g0 := hq2.cell 0
    have hr2 := hr.below B2
    go_upto_region 7 with fail
    have kg : Blk w2.drew g 107 #[.int .u64 (lo : Int), .slice A n cp] := hq2
    have hl1 : (Instr.loadAt 105 (.pointer (some ⟨g, 1, none⟩))).run Try.prog w2.drew = .ok (.slice A n cp) w2.drew := by
      have c1 := kg.cell 1
      go_simp
    have h33 := fun W => sl_fromU A n cp d (by omega) hnc W
    have HC := Lib.hid (clone_any (c.dirs.drop d) (n - d) (by omega) (by omega) (cut1 A d cp) (cp - d) w2.drew (cut1_reads (hr2.more B2.size) (by omega) hnc))
    clear g0 hq2 hr2 hr hq HT h1i hw0
    refine wp_region_held_drew (S := (fun W : World => W.cell? ⟨g, 0, none⟩ = some (.int .u64 (lo : Int)))) (by kernel_rfl) (kg.cell 0) (fun hHeld => ?_)
    refine take1 (i := 0) (d := 22) (v := ?_) rfl (by kernel_rfl) (by kernel_rfl) (by kernel_rfl) rfl (fun _ _ _ h => h) (Or.inl ⟨by rfl, ?_⟩) (by assumption) ?_
    rotate_left
    · (intro w hSw; (try dsimp only at hSw); go_simp); with_reducible rfl
    simp only [List.set_cons_zero, List.set_cons_succ]
    refine take1 (i := 1) (d := 23) (v := ?_) rfl (by kernel_rfl) (by kernel_rfl) (by kernel_rfl) rfl (fun _ _ _ h => h) (Or.inl ⟨by rfl, ?_⟩) (by assumption) ?_
    rotate_left
    · (intro w hSw; (try dsimp only at hSw); go_simp); with_reducible rfl
    simp only [List.set_cons_zero, List.set_cons_succ]
    refine take1 (i := 2) (d := 24) (v := ?_) rfl (by kernel_rfl) (by kernel_rfl) (by kernel_rfl) rfl (fun _ _ _ h => h) (Or.inl ⟨by rfl, ?_⟩) (by assumption) ?_
    rotate_left
    · (intro w hSw; (try dsimp only at hSw); go_simp); with_reducible rfl
    simp only [List.set_cons_zero, List.set_cons_succ]
    refine take1 (i := 3) (d := 25) (v := ?_) rfl (by kernel_rfl) (by kernel_rfl) (by kernel_rfl) rfl (fun _ _ _ h => h) (Or.inl ⟨by rfl, ?_⟩) (by assumption) ?_
    rotate_left
    · (intro w hSw; (try dsimp only at hSw); go_simp); with_reducible rfl
    simp only [List.set_cons_zero, List.set_cons_succ]
    refine take1 (i := 5) (d := 27) (v := ?_) rfl (by kernel_rfl) (by kernel_rfl) (by kernel_rfl) rfl (fun _ _ _ h => h) (Or.inl ⟨by rfl, ?_⟩) (by assumption) ?_
    rotate_left
    · (intro w hSw; (try dsimp only at hSw); go_simp); with_reducible rfl
    simp only [List.set_cons_zero, List.set_cons_succ]
    refine take1 (i := 6) (d := 28) (v := ?_) rfl (by kernel_rfl) (by kernel_rfl) (by kernel_rfl) rfl (fun _ _ _ h => h) (Or.inl ⟨by rfl, ?_⟩) (by assumption) ?_
    rotate_left
    · (intro w hSw; (try dsimp only at hSw); go_simp); with_reducible rfl
    simp only [List.set_cons_zero, List.set_cons_succ]
    refine take1 (i := 7) (d := 29) (v := ?_) rfl (by kernel_rfl) (by kernel_rfl) (by kernel_rfl) rfl (fun _ _ _ h => h) (Or.inl ⟨by rfl, ?_⟩) (by assumption) ?_
    rotate_left
    · (intro w hSw; (try dsimp only at hSw); go_simp); with_reducible rfl
    simp only [List.set_cons_zero, List.set_cons_succ]
    refine take1 (i := 8) (d := 30) (v := ?_) rfl (by kernel_rfl) (by kernel_rfl) (by kernel_rfl) rfl (fun _ _ _ h => h) (Or.inl ⟨by rfl, ?_⟩) (by assumption) ?_
    rotate_left
    · (intro w hSw; (try dsimp only at hSw); go_simp); with_reducible rfl
    simp only [List.set_cons_zero, List.set_cons_succ]
    refine take1 (i := 9) (d := 31) (v := ?_) rfl (by kernel_rfl) (by kernel_rfl) (by kernel_rfl) rfl (fun _ _ _ h => h) (Or.inl ⟨by rfl, ?_⟩) (by assumption) ?_
    rotate_left
    · (intro w hSw; (try dsimp only at hSw); go_simp); with_reducible rfl
    simp only [List.set_cons_zero, List.set_cons_succ]
    refine take1 (i := 10) (d := 32) (v := ?_) rfl (by kernel_rfl) (by kernel_rfl) (by kernel_rfl) rfl (fun _ _ _ h => h) (Or.inl ⟨by rfl, ?_⟩) (by assumption) ?_
    rotate_left
    · (intro w hSw; (try dsimp only at hSw); go_simp); with_reducible rfl
    simp only [List.set_cons_zero, List.set_cons_succ]
    refine wpAnyH_ready (rs := [4]) (by kernel_rfl) (by simp) (AllReadyH.cons rfl (fun Kreg hKreg => ?_) AllReadyH.nil)
    refine step_load (by rfl) (.tmp 25) (by rfl) (by rfl) hl1 ?_
    refine hKreg.out _ _ ((by first | exact kg.cell 0 | exact k2.cell 0 | exact hg4.cell 0)) (fun hHeld => ?_)
    clear hKreg Kreg
    refine wpAnyH_put (d := 26) (by rfl) ?_
    simp only [List.set_cons_zero, List.set_cons_succ]
    refine take1 (i := 11) (d := 33) (v := ?_) rfl (by kernel_rfl) (by kernel_rfl) (by kernel_rfl) rfl (fun _ _ _ h => h) (Or.inl ⟨by rfl, ?_⟩) (by assumption) ?_
    rotate_left
    · intro w hSw; refine (exec_slice (t := 105) (x := .tmp 26) (lo := some (.tmp 32)) (hi := none) (mx := none) (by rfl) ht_sl (by rfl) (by rfl) (by rfl) (by rfl) (h33 w)).trans ?_; with_reducible rfl
    simp only [List.set_cons_zero, List.set_cons_succ]
    refine wpAnyH_ready (rs := [12]) (by kernel_rfl) (by simp) (AllReadyH.cons rfl (fun Kreg hKreg => ?_) AllReadyH.nil)
    go_simp
    refine HC.out.mono ?_; rintro e w3 ⟨u3, rfl, ho3, B3⟩
    have k2 := kg.below B3 kg.lt
    obtain ⟨A3, c3, rfl, _⟩ := Byt.own_slice1 ho3
    obtain ⟨w4, hst4, hg4, hgr4⟩ := store_row k2 A3 (n - d) c3
    go_wp2_with fail
    refine hKreg.out _ _ ((by first | exact kg.cell 0 | exact k2.cell 0 | exact hg4.cell 0)) (fun hHeld => ?_)
    clear hKreg Kreg
    try simp only [Act.put, List.setIfInBounds_toArray, List.set_cons_zero, List.set_cons_succ]
    refine take1 (i := 13) (d := 35) (v := ?_) rfl (by kernel_rfl) (by kernel_rfl) (by kernel_rfl) rfl (fun _ _ _ h => h) (Or.inl ⟨by rfl, ?_⟩) (by assumption) ?_
    rotate_left
    · (intro w hSw; (try dsimp only at hSw); go_simp); with_reducible rfl
    simp only [List.set_cons_zero, List.set_cons_succ]
    refine take1 (i := 14) (d := 36) (v := ?_) rfl (by kernel_rfl) (by kernel_rfl) (by kernel_rfl) rfl (fun _ _ _ h => h) (Or.inl ⟨by rfl, ?_⟩) (by assumption) ?_
    rotate_left
    · (intro w hSw; (try dsimp only at hSw); go_simp); with_reducible rfl
    simp only [List.set_cons_zero, List.set_cons_succ]
    refine wpAnyH_ready (rs := [15]) (by kernel_rfl) (by simp) (AllReadyH.cons rfl (fun Kreg hKreg => ?_) AllReadyH.nil)
    refine step_store (by rfl) (.tmp 36) (.tmp 34) (by rfl) (by rfl) (by rfl) hst4 ?_
    refine hKreg.out _ _ ((by first | exact kg.cell 0 | exact k2.cell 0 | exact hg4.cell 0)) (fun hHeld => ?_)
    clear hKreg Kreg
    try simp only [Act.put, List.setIfInBounds_toArray, List.set_cons_zero, List.set_cons_succ]
    refine wpAnyH_done (by kernel_rfl) ?_ _
    have hkg : Blk w3 g 107 #[.int .u64 (lo : Int), .slice A n cp] := k2
    obtain ⟨w5, hst5, hg5, hgr5⟩ := store_low hg4 (lw : Int)
    have hne3 : ∀ r, (Value.slice A3 (n - d) c3).ownBlock = some r → r ≠ g := fun r hr he => by
      have h3 := (ho3.lt r hr).1
      have h4 := q2.hg.lt
      have h5 : w2.drew.heap.size = w2.heap.size := rfl
      omega
    have ho4 := own1_grown ho3 hgr4 (fun r hr he => hne3 r hr (Option.some.inj he).symm)
    have ho5 := own1_grown ho4 hgr5 (fun r hr he => hne3 r hr (Option.some.inj he).symm)
    have HF : Hid (∃ v', ChS B g ⟨lw, c.dirs.drop d⟩ v' w5 ∧ QStep g (.slice A n cp) w v' w5) := by
      refine ⟨_, ⟨hg5, by rw [HLEN.out]; exact ho5.mono (Nat.le_trans hB B2.size), q2.hB, HQ.out.2⟩, QStep.after_below B2 ⟨?_, fun r hr => .inr (ho3.lt r hr).1⟩⟩
      have o1 : Outs (g :: (Value.slice A n cp).ownBlock.toList) w2 w3 := Outs.of_below (show Below w2.heap.size w2 w3 from (below_drewN (Below.refl _ w2) 1).trans B3)
      exact (o1.trans (Outs.of_grown hgr4 (by simp))).trans (Outs.of_grown hgr5 (by simp))
    clear hkg ho3 ho4 ho5 hg4 hgr4 hg5 hgr5 hne3 q2 B3 k2 kg
    go_wp2_with (refine wpList_store (by rfl) (.tmp 40) (.tmp 38) (by rfl) (by rfl) (by rfl) hst5 ?_)
    go_ret
    exact ⟨rfl, HF.out⟩
  rw [if_neg h2] at hok ⊢
  have h2i : ¬ (lo : Int) < (lw : Int) := by omega
  have HQ : Hid (∀ w', Below w.heap.size w w' → ∃ v', ChS B g c v' w' ∧ QStep g (.slice A n cp) w v' w') := fun w' hb => ⟨_, q.below hb, QStep.of_below hb⟩
  clear q hok h1 hlw hlo h2 hup hr hb64
  generalize c.top = tp at *
  go_enter Try.func24, Try.ntmps24
  go_upto_region 5 with (refine HT.out.mono ?_; rintro e w2 ⟨rfl, B2⟩)
  have g0 := (hq.below B2 hq.lt).cell 0
  clear HT h1i
  go_wp2_with fail
  go_ret
  exact ⟨rfl, HQ.out _ B2⟩
end Go.Proofs.Ytbamfnlgapchkaa.Chn
