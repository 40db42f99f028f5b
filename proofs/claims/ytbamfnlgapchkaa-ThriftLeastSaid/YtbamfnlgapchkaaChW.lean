/- Package chain, walked: directories, New, Low, Top, At, Push, Release, Tail, Copy. Conditions: the chain lies in memory of its own. -/
import Derived.Test.YtbamfnlgapchkaaChP
import Derived.Test.YtbamfnlgapchkaaBytes
import Derived.Test.YtbamfnlgapchkaaMemRef
import Derived.Test.YtbamfnlgapchkaaInvS
import Derived.Test.YtbamfnlgapchkaaRow
import Derived.Test.YtbamfnlgapchkaaOwn1
import Derived.Test.YtbamfnlgapchkaaBatRow
import Derived.Test.YtbamfnlgapchkaaKeep
import Derived.Deep.LoopGhost
import Derived.Deep.DeepCutAuto
import Derived.Deep.CutBlock
import Derived.Deep.Onto
namespace Go.Proofs.Ytbamfnlgapchkaa.Chn
open Go.RowKit Mem DrawInv

theorem info_set : ∃ i, Try.prog.info? 27 = some i ∧ i.zero = some (.int .u8 0) ∧ i.size = 1 ∧ i.bytes = 1 := by
  cases h : Try.prog.info? 27 with
  | none =>
    have : (Try.prog.info? 27).isSome = true := by kernel_rfl
    rw [h] at this
    cases this
  | some i =>
    have e1 : (Try.prog.info? 27).map (·.size) = some 1 := by kernel_rfl
    have e2 : (Try.prog.info? 27).map (·.zero) = some (some (.int .u8 0)) := by kernel_rfl
    have e3 : (Try.prog.info? 27).map (·.bytes) = some 1 := by kernel_rfl
    rw [h] at e1 e2 e3
    exact ⟨i, rfl, Option.some.inj e2, Option.some.inj e1, Option.some.inj e3⟩
/-- A chain lies in its own memory. -/
structure ChS (B g : Nat) (c : Ch) (v : Value) (w : World) : Prop where
  hg : Blk w g 107 #[.int .u64 (c.low : Int), v]
  ho : w.ownsRow B 27 1 v c.dirs.length (c.dirs.map u8v)
  hB : B ≤ g
  ok : c.Ok
section
variable {B g : Nat} {c : Ch} {v v' : Value} {w w' : World}
theorem ChS.below (q : ChS B g c v w) (hb : Below w.heap.size w w') : ChS B g c v w' := ⟨q.hg.below hb q.hg.lt, own1_below q.ho hb (fun r hr => (q.ho.lt r hr).2), q.hB, q.ok⟩
theorem ChS.ne (q : ChS B g c v w) : v.ownBlock ≠ some g := own_blk_ne q.ho q.hg (by decide)
theorem ChS.far (q : ChS B g c v w) {r : Nat} (hr : w.heap.size ≤ r) (hl : r < w'.heap.size) : Far w' g v r := ⟨hl, fun e => by have := q.hg.lt; omega, fun e => by have := (q.ho.lt r e).2; omega⟩
theorem ChS.bw {C : Nat} {w0 : World} (q : ChS B g c v w) (s : QStep g v w v' w') (bw : Below C w0 w) (hC : C ≤ B) (hs : B ≤ w.heap.size) : Below C w0 w' :=
  bw.trans (s.out.below (Nat.le_trans hC hs) (fun k hk => by
    rcases List.mem_cons.1 hk with rfl | h'
    · exact Nat.le_trans hC q.hB
    · exact Nat.le_trans hC (q.ho.lt k (by simpa using h')).1))
theorem ChS.slice (q : ChS B g c v w) : ∃ A n cp, v = .slice A n cp ∧ Hid (c.dirs.length = n) ∧ n ≤ cp ∧ 0 < n ∧ n ≤ 1000 ∧ Reads w w.heap.size 1 A n (c.dirs.map u8v) := by
  obtain ⟨A, cp, rfl, hc, hr⟩ := Byt.own_slice1 q.ho
  exact ⟨A, _, cp, rfl, rfl, hc, q.ok.ne, q.ok.len, hr⟩
/-- Another chain apart from this one stays as it is. -/
theorem ChS.keep {B2 g2 : Nat} {c2 : Ch} {v2 : Value} (q : ChS B2 g2 c2 v2 w) (s : QStep g v w v' w') (h1 : Far w g v g2) (h2 : ∀ r, v2.ownBlock = some r → Far w g v r) : ChS B2 g2 c2 v2 w' :=
  ⟨s.blk h1 q.hg, own1_keep q.ho (fun r hr => s.heap (h2 r hr)), q.hB, q.ok⟩
end
theorem dir_any (s : Nat) (hs : s < 256) (w : World) : Calls Try.prog 70 #[.int .u8 (s : Int)] w fun e w' => e = .returned (.bool (dirB s)) ∧ w = w' := by
  have hd := dir_eq s hs
  by_cases hl : 0 < lenN s
  · rw [decide_eq_true hl, Bool.true_and] at hd
    have hb : (((bothN s s : Nat) : Int) == (s : Int)) = dirB s := by
      rw [← hd, Bool.eq_iff_iff]
      simp
      omega
    go_enter Try.func70, Try.ntmps70
    go_wp2_with (first | (go_at_call 42; refine (len_any _ hs _).mono ?_; rintro e w' ⟨rfl, rfl⟩) | (go_at_call 45; refine (both_any _ _ hs hs _).mono ?_; rintro e w' ⟨rfl, rfl⟩))
    go_ret
    exact ⟨rfl, rfl⟩
  · rw [decide_eq_false hl, Bool.false_and] at hd
    have hl0 : lenN s = 0 := by omega
    rw [← hd]
    clear hd
    go_enter Try.func70, Try.ntmps70
    go_wp2_with (first | (go_at_call 42; refine (len_any _ hs _).mono ?_; rintro e w' ⟨rfl, rfl⟩) | (go_at_call 45; refine (both_any _ _ hs hs _).mono ?_; rintro e w' ⟨rfl, rfl⟩))
    go_ret
    exact ⟨ret_bool (by simp), rfl⟩
theorem new_bad (s : Nat) (hs : s < 256) (hd : dirB s = false) (w : World) : Calls Try.prog 29 #[.int .u8 (s : Int)] w fun e w' => e = .returned (.tuple #[.pointer none, .int .i64 2]) ∧ w = w' := by
  have HD := Lib.hid (dir_any s hs w)
  rw [hd] at HD
  go_enter Try.func29, Try.ntmps29
  go_wp2_with fail
  refine HD.out.mono ?_; rintro e w' ⟨rfl, rfl⟩
  go_wp2_with fail
  exact bodyPost_ret (v := .tuple #[.pointer none, .int .i64 2]) (by simp [results, Try.results29]) rfl ⟨rfl, rfl⟩
theorem new_any (s : Nat) (hd : dirB s = true) (w : World) : Calls Try.prog 29 #[.int .u8 (s : Int)] w fun e w' => ∃ g v, e = .returned (.tuple #[.pointer (some ⟨g, 0, none⟩), .int .i64 0]) ∧ ChS w.heap.size g ⟨0, [s]⟩ v w' ∧ Below w.heap.size w w' := by
  have hs : s < 256 := by unfold dirB at hd; have := of_decide_eq_true hd; omega
  have HD := Lib.hid (dir_any s hs w)
  rw [hd] at HD
  have k1 := Blk.new w 27 #[.int .u8 (s : Int)]
  have k2 := k1.alloc (.cells #[.int .u64 0, .slice (some ⟨w.heap.size, 0, none⟩) 1 1] 107)
  have k3 := Blk.new (w.alloc (.cells #[.int .u8 (s : Int)] 27)) 107 #[.int .u64 0, .slice (some ⟨w.heap.size, 0, none⟩) 1 1]
  have e1 : (w.alloc (.cells #[.int .u8 (s : Int)] 27)).heap.size = w.heap.size + 1 := by simp
  rw [e1] at k3
  have hb : Below w.heap.size w ((w.alloc (.cells #[.int .u8 (s : Int)] 27)).alloc (.cells #[.int .u64 0, .slice (some ⟨w.heap.size, 0, none⟩) 1 1] 107)) := ((Below.refl _ w).alloc (Nat.le_refl _) _).alloc (by rw [e1]; omega) _
  have HQ : Hid (ChS w.heap.size (w.heap.size + 1) ⟨0, [s]⟩ (.slice (some ⟨w.heap.size, 0, none⟩) 1 1) _ ∧ Below w.heap.size w _) := ⟨⟨k3, own1_of_blk k2 (Nat.le_refl _) rfl (by simp) (by unfold maxLen; omega), by omega, new_ok hd⟩, hb⟩
  clear k1 k2 k3 hb
  go_enter Try.func29, Try.ntmps29
  go_wp2_with fail
  refine HD.out.mono ?_; rintro e w' ⟨rfl, rfl⟩
  go_wp2_with fail
  exact bodyPost_ret (v := .tuple #[.pointer (some ⟨w.heap.size + 1, 0, none⟩), .int .i64 0]) (by simp [results, Try.results29]) rfl ⟨_, _, rfl, HQ.out.1, HQ.out.2⟩
theorem low_nil (w : World) : Calls Try.prog 25 #[.pointer none] w fun e w' => e = .returned (.int .u64 0) ∧ w = w' := by
  go_enter Try.func25, Try.ntmps25
  go_wp2_with fail
  go_ret
  exact ⟨rfl, rfl⟩
theorem top_nil (w : World) : Calls Try.prog 18 #[.pointer none] w fun e w' => e = .returned (.int .u64 0) ∧ w = w' := by
  go_enter Try.func18, Try.ntmps18
  go_wp2_with fail
  go_ret
  exact ⟨rfl, rfl⟩
theorem at_nil (slot : Nat) (w : World) : Calls Try.prog 17 #[.pointer none, .int .u64 (slot : Int)] w fun e w' => e = .returned (.tuple #[.int .u8 0, .bool false]) ∧ w = w' := by
  go_enter Try.func17, Try.ntmps17
  go_wp2_with fail
  exact bodyPost_ret (v := .tuple #[.int .u8 0, .bool false]) (by simp [results, Try.results17]) rfl ⟨rfl, rfl⟩
theorem push_nil (s : Nat) (w : World) : Calls Try.prog 22 #[.pointer none, .int .u8 (s : Int)] w fun e w' => e = .returned (.int .i64 1) ∧ w = w' := by
  go_enter Try.func22, Try.ntmps22
  go_wp2_with fail
  go_ret
  exact ⟨rfl, rfl⟩
theorem release_nil (b : Nat) (w : World) : Calls Try.prog 24 #[.pointer none, .int .u64 (b : Int)] w fun e w' => e = .returned (.int .i64 1) ∧ w = w' := by
  go_enter Try.func24, Try.ntmps24
  go_wp2_with fail
  go_ret
  exact ⟨rfl, rfl⟩
theorem tail_nil (w : World) : Calls Try.prog 27 #[.pointer none] w fun e w' => e = .returned (.string ⟨#[]⟩) ∧ w = w' := by
  go_enter Try.func27, Try.ntmps27
  go_wp2_with fail
  go_ret
  exact ⟨rfl, rfl⟩
theorem copy_nil (w : World) : Calls Try.prog 28 #[.pointer none] w fun e w' => e = .returned (.pointer none) ∧ w = w' := by
  go_enter Try.func28, Try.ntmps28
  go_wp2_with fail
  go_ret
  exact ⟨rfl, rfl⟩
theorem low_any {B g : Nat} {c : Ch} {v : Value} {w : World} (q : ChS B g c v w) : Calls Try.prog 25 #[.pointer (some ⟨g, 0, none⟩)] w fun e w' => e = .returned (.int .u64 (c.low : Int)) ∧ w = w' := by
  have g0 := q.hg.cell 0
  go_enter Try.func25, Try.ntmps25
  go_wp2_with fail
  go_ret
  exact ⟨rfl, rfl⟩
set_option maxRecDepth 100000 in
set_option maxHeartbeats 2000000 in
theorem top_any {B g : Nat} {c : Ch} {v : Value} {w : World} (q : ChS B g c v w) : Calls Try.prog 18 #[.pointer (some ⟨g, 0, none⟩)] w fun e w' => e = .returned (.int .u64 (c.top : Int)) ∧ Below w.heap.size w w' := by
  obtain ⟨A, n, cp, rfl, HN, hnc, hn0, hn1, hr⟩ := q.slice
  have hup := q.ok.up
  have htp : c.low + n - 1 = c.top := by unfold Ch.top; rw [HN.out]
  obtain ⟨t, ht⟩ : ∃ t, t = c.top := ⟨_, rfl⟩
  rw [← ht] at hup htp ⊢
  have kg : Blk w.drew g 107 #[.int .u64 (c.low : Int), .slice A n cp] := q.hg
  generalize c.low = lo at *
  obtain ⟨m, hm⟩ : ∃ m, m = lo + n := ⟨_, rfl⟩
  have hw1 : IntKind.u64.wrap ((lo : Int) + (n : Int)) = (m : Int) := by rw [IntKind.wrap_u64]; omega
  have hw2 : IntKind.u64.wrap ((m : Int) - 1) = (t : Int) := by rw [IntKind.wrap_u64]; omega
  have hw3 : IntKind.u64.wrap (n : Int) = (n : Int) := by rw [IntKind.wrap_u64]; omega
  clear q hr HN ht htp hup hnc hn0 hm
  go_enter Try.func18, Try.ntmps18
  go_upto_region 3 with fail
  refine region_inv2 (by kernel_rfl) [] [(5, .pointer (some ⟨g, 0, none⟩)), (6, .pointer (some ⟨g, 0, none⟩)), (7, .pointer (some ⟨g, 0, none⟩)), (8, .int .u64 (lo : Int)), (9, .pointer (some ⟨g, 0, none⟩)), (10, .pointer (some ⟨g, 0, none⟩)), (11, .pointer (some ⟨g, 1, none⟩)), (12, .slice A n cp), (13, .int .i64 (n : Int)), (14, .int .u64 (n : Int)), (15, .int .u64 (m : Int)), (16, .int .u64 (t : Int)), (2, .int .u64 (t : Int))] (by kernel_rfl) (by kernel_rfl) rfl (by kernel_rfl) ?_ ?_ ?_
  · intro q hq; cases hq
  · refine And.intro ?_ ?_
    · intro d hd ρ W hcs bw hn hg
      cases hd
      have e0 : ρ (.tmp 0) = .pointer (some ⟨g, 0, none⟩) := hn 0 (by decide)
      clear hn hg
      refine .inl ⟨trivial, ?_⟩
      refine .inl ⟨_, W, rfl, e0, Below.refl _ _⟩
    refine And.intro ?_ ?_
    · intro d hd ρ W hcs bw hn hg
      cases hd
      have e5 : ρ (.tmp 5) = .pointer (some ⟨g, 0, none⟩) := hn 5 (by decide)
      clear hn hg
      refine .inl ⟨trivial, ?_⟩
      refine .inl ⟨.pointer (some ⟨g, 0, none⟩), W, ?_, rfl, Below.refl _ _⟩
      go_simp
    refine And.intro ?_ ?_
    · intro d hd ρ W hcs bw hn hg
      cases hd
      have e6 : ρ (.tmp 6) = .pointer (some ⟨g, 0, none⟩) := hn 6 (by decide)
      clear hn hg
      refine .inl ⟨trivial, ?_⟩
      refine .inl ⟨.pointer (some ⟨g, 0, none⟩), W, ?_, rfl, Below.refl _ _⟩
      go_simp
    refine And.intro ?_ ?_
    · intro d hd ρ W hcs bw hn hg
      cases hd
      have e7 : ρ (.tmp 7) = .pointer (some ⟨g, 0, none⟩) := hn 7 (by decide)
      clear hn hg
      refine .inl ⟨trivial, ?_⟩
      have z0 : W.cell? ⟨g, 0, none⟩ = some (.int .u64 (lo : Int)) := (Blk.below kg bw (Blk.lt kg)).cell 0
      refine .inl ⟨.int .u64 (lo : Int), W, ?_, rfl, Below.refl _ _⟩
      go_simp
    refine And.intro ?_ ?_
    · intro d hd ρ W hcs bw hn hg
      cases hd
      have e0 : ρ (.tmp 0) = .pointer (some ⟨g, 0, none⟩) := hn 0 (by decide)
      clear hn hg
      refine .inl ⟨trivial, ?_⟩
      refine .inl ⟨_, W, rfl, e0, Below.refl _ _⟩
    refine And.intro ?_ ?_
    · intro d hd ρ W hcs bw hn hg
      cases hd
      have e9 : ρ (.tmp 9) = .pointer (some ⟨g, 0, none⟩) := hn 9 (by decide)
      clear hn hg
      refine .inl ⟨trivial, ?_⟩
      refine .inl ⟨.pointer (some ⟨g, 0, none⟩), W, ?_, rfl, Below.refl _ _⟩
      go_simp
    refine And.intro ?_ ?_
    · intro d hd ρ W hcs bw hn hg
      cases hd
      have e10 : ρ (.tmp 10) = .pointer (some ⟨g, 0, none⟩) := hn 10 (by decide)
      clear hn hg
      refine .inl ⟨trivial, ?_⟩
      refine .inl ⟨.pointer (some ⟨g, 1, none⟩), W, ?_, rfl, Below.refl _ _⟩
      go_simp
    refine And.intro ?_ ?_
    · intro d hd ρ W hcs bw hn hg
      cases hd
      have e11 : ρ (.tmp 11) = .pointer (some ⟨g, 1, none⟩) := hn 11 (by decide)
      clear hn hg
      refine .inl ⟨trivial, ?_⟩
      have z0 : W.cell? ⟨g, 1, none⟩ = some (.slice A n cp) := (Blk.below kg bw (Blk.lt kg)).cell 1
      refine .inl ⟨.slice A n cp, W, ?_, rfl, Below.refl _ _⟩
      go_simp
    refine And.intro ?_ ?_
    · intro d hd ρ W hcs bw hn hg
      cases hd
      have e12 : ρ (.tmp 12) = .slice A n cp := hn 12 (by decide)
      clear hn hg
      refine .inl ⟨trivial, ?_⟩
      refine .inl ⟨.int .i64 (n : Int), W, ?_, rfl, Below.refl _ _⟩
      go_simp
    refine And.intro ?_ ?_
    · intro d hd ρ W hcs bw hn hg
      cases hd
      have e13 : ρ (.tmp 13) = .int .i64 (n : Int) := hn 13 (by decide)
      clear hn hg
      refine .inl ⟨trivial, ?_⟩
      refine .inl ⟨.int .u64 (n : Int), W, ?_, rfl, Below.refl _ _⟩
      go_simp
    refine And.intro ?_ ?_
    · intro d hd ρ W hcs bw hn hg
      cases hd
      have e8 : ρ (.tmp 8) = .int .u64 (lo : Int) := hn 8 (by decide)
      have e14 : ρ (.tmp 14) = .int .u64 (n : Int) := hn 14 (by decide)
      clear hn hg
      refine .inl ⟨trivial, ?_⟩
      refine .inl ⟨.int .u64 (m : Int), W, ?_, rfl, Below.refl _ _⟩
      go_simp
    refine And.intro ?_ ?_
    · intro d hd ρ W hcs bw hn hg
      cases hd
      have e15 : ρ (.tmp 15) = .int .u64 (m : Int) := hn 15 (by decide)
      clear hn hg
      refine .inl ⟨trivial, ?_⟩
      have hc1 := hcs.1
      refine .inl ⟨.int .u64 (t : Int), W, ?_, rfl, Below.refl _ _⟩
      go_simp
    refine And.intro ?_ ?_
    · intro d hd ρ W hcs bw hn hg
      cases hd
      have e16 : ρ (.tmp 16) = .int .u64 (t : Int) := hn 16 (by decide)
      clear hn hg
      refine .inl ⟨trivial, ?_⟩
      refine .inl ⟨_, W, rfl, e16, Below.refl _ _⟩
    trivial
  · intro a' w' hsz hdf hb hVs
    have q2 : a'.eval (.tmp 2) = .int .u64 (t : Int) := hVs 2
    have ha := slot_over_seg 5 12 [2] rfl (by kernel_rfl) (of_decide_eq_true (by kernel_rfl)) hsz hdf hVs
    clear hVs hsz hdf
    rw [show List.range' 5 12 = [5, 6, 7, 8, 9, 10, 11, 12, 13, 14, 15, 16] from rfl] at ha
    simp only [List.take_succ_cons, List.take_zero, List.drop_succ_cons, List.drop_zero, List.map_cons, List.map_nil, List.cons_append, List.nil_append, List.foldl_cons, List.foldl_nil, List.set_cons_zero, List.set_cons_succ, q2] at ha
    clear q2
    generalize a'.eval (.tmp 5) = x5 at ha
    generalize a'.eval (.tmp 6) = x6 at ha
    generalize a'.eval (.tmp 7) = x7 at ha
    generalize a'.eval (.tmp 8) = x8 at ha
    generalize a'.eval (.tmp 9) = x9 at ha
    generalize a'.eval (.tmp 10) = x10 at ha
    generalize a'.eval (.tmp 11) = x11 at ha
    generalize a'.eval (.tmp 12) = x12 at ha
    generalize a'.eval (.tmp 13) = x13 at ha
    generalize a'.eval (.tmp 14) = x14 at ha
    generalize a'.eval (.tmp 15) = x15 at ha
    generalize a'.eval (.tmp 16) = x16 at ha
    subst ha
    have bz : Below w.heap.size w w' := (below_drewN (Below.refl _ w) 1).trans (hb.mono (Nat.le_refl _))
    go_wp2_with fail
    go_ret
    exact ⟨rfl, bz⟩
set_option maxRecDepth 100000 in
set_option maxHeartbeats 2000000 in
theorem at_any {B g : Nat} {c : Ch} {v : Value} {w : World} (q : ChS B g c v w) (slot : Nat) (hs : slot < 18446744073709551616) : Calls Try.prog 17 #[.pointer (some ⟨g, 0, none⟩), .int .u64 (slot : Int)] w fun e w' => e = .returned (.tuple #[.int .u8 ((c.at_ slot).1 : Int), .bool (c.at_ slot).2]) ∧ Below w.heap.size w w' := by
  by_cases h0 : slot = 0
  · subst h0
    rw [at_no (.inl rfl)]
    go_enter Try.func17, Try.ntmps17
    go_wp2_with fail
    exact bodyPost_ret (v := .tuple #[.int .u8 0, .bool false]) (by simp [results, Try.results17]) rfl ⟨rfl, Below.refl _ _⟩
  have hne : ((slot : Int) == 0) = false := beq_eq_false_iff_ne.2 (by omega)
  obtain ⟨a, ha⟩ : ∃ a, a = slot - 3 := ⟨_, rfl⟩
  obtain ⟨mx, hmx⟩ : ∃ mx, max (slot : Int) 3 = mx := ⟨_, rfl⟩
  have hw1 : IntKind.u64.wrap (mx - 3) = (a : Int) := by rw [IntKind.wrap_u64]; omega
  have HL := Lib.hid (low_any q)
  have HT := Lib.hid (top_any q)
  by_cases h1 : a < c.low
  · have hx : c.at_ slot = (0, false) := at_no (.inr (.inl (by omega)))
    rw [hx]
    have h1i : (a : Int) < (c.low : Int) := by omega
    clear q hx ha
    generalize c.low = lo at *
    go_enter Try.func17, Try.ntmps17
    go_wp2_with fail
    refine HL.out.mono ?_; rintro e w2 ⟨rfl, rfl⟩
    go_wp2_with fail
    exact bodyPost_ret (v := .tuple #[.int .u8 0, .bool false]) (by simp [results, Try.results17]) rfl ⟨rfl, Below.refl _ _⟩
  have h1i : ¬ (a : Int) < (c.low : Int) := by omega
  by_cases h2 : c.top < a
  · have hx : c.at_ slot = (0, false) := at_no (.inr (.inr (by omega)))
    rw [hx]
    have h2i : (c.top : Int) < (a : Int) := by omega
    clear q hx ha
    generalize c.low = lo at *
    generalize c.top = tp at *
    go_enter Try.func17, Try.ntmps17
    go_wp2_with fail
    refine HL.out.mono ?_; rintro e w2 ⟨rfl, rfl⟩
    clear HL
    go_wp2_with fail
    refine HT.out.mono ?_; rintro e w2 ⟨rfl, B2⟩
    go_wp2_with fail
    exact bodyPost_ret (v := .tuple #[.int .u8 0, .bool false]) (by simp [results, Try.results17]) rfl ⟨rfl, B2⟩
  have h2i : ¬ (c.top : Int) < (a : Int) := by omega
  have hx := at_yes (c := c) h0 (by omega) (by omega : slot - 3 ≤ c.top)
  rw [hx]
  obtain ⟨A, n, cp, rfl, HN, hnc, hn0, hn1, hr⟩ := q.slice
  obtain ⟨j, hj⟩ : ∃ j, j = a - c.low := ⟨_, rfl⟩
  have hjn : j < n := by have h := HN.out; unfold Ch.top at h2; rw [h] at h2; omega
  obtain ⟨ad, u, rfl, hadl, hu, hcell⟩ := hr.at_ hjn
  have hs' : u = .int .u8 ((c.dirs.getD (slot - 3 - c.low) 0 : Nat) : Int) := by
    rw [List.getElem?_map, ← ha, ← hj] at *
    rw [List.getD_eq_getElem?_getD]
    cases hd : c.dirs[j]? with
    | none => rw [hd] at hu; cases hu
    | some x => rw [hd] at hu; exact (Option.some.inj hu).symm
  subst hs'
  have hw2 : IntKind.u64.wrap ((a : Int) - (c.low : Int)) = (j : Int) := by rw [IntKind.wrap_u64]; omega
  have hg := q.hg
  generalize (c.dirs.getD (slot - 3 - c.low) 0) = sv at *
  have hjni : (j : Int) < (n : Int) := by omega
  clear q hx ha hr hu hj HN
  generalize c.low = lo at *
  generalize c.top = tp at *
  go_enter Try.func17, Try.ntmps17
  go_wp2_with fail
  refine HL.out.mono ?_; rintro e w2 ⟨rfl, rfl⟩
  clear HL
  go_wp2_with fail
  refine HT.out.mono ?_; rintro e w2 ⟨rfl, B2⟩
  have hg2 := hg.below B2 hg.lt
  have kg : Blk w2.drew g 107 #[.int .u64 (lo : Int), .slice (some ad) n cp] := hg2
  have hc2 := (B2.cell (p := ad.add j) (by rw [block_of_add]; exact hadl)).trans hcell
  have hcell : w2.drew.cell? (ad.add j) = some (.int .u8 (sv : Int)) := hc2
  have hadb : (ad.add j).block < w2.drew.heap.size := by rw [block_of_add]; exact Nat.lt_of_lt_of_le hadl B2.size
  clear HT hg2 hc2
  go_upto_region 6 with fail
  refine region_inv2 (by kernel_rfl) [] [(26, .pointer (some ⟨g, 0, none⟩)), (27, .pointer (some ⟨g, 0, none⟩)), (28, .pointer (some ⟨g, 1, none⟩)), (29, .slice (some ad) n cp), (30, .int .u64 (a : Int)), (31, .pointer (some ⟨g, 0, none⟩)), (32, .pointer (some ⟨g, 0, none⟩)), (33, .pointer (some ⟨g, 0, none⟩)), (34, .int .u64 (lo : Int)), (35, .int .u64 (j : Int)), (36, .pointer (some (ad.add j))), (37, .int .u8 (sv : Int)), (4, .int .u8 (sv : Int)), (5, .bool true)] (by kernel_rfl) (by kernel_rfl) rfl (by kernel_rfl) ?_ ?_ ?_
  · intro q hq; cases hq
  · refine And.intro ?_ ?_
    · intro d hd ρ W hcs bw hn hg
      cases hd
      have e0 : ρ (.tmp 0) = .pointer (some ⟨g, 0, none⟩) := hn 0 (by decide)
      clear hn hg
      refine .inl ⟨trivial, ?_⟩
      refine .inl ⟨_, W, rfl, e0, Below.refl _ _⟩
    refine And.intro ?_ ?_
    · intro d hd ρ W hcs bw hn hg
      cases hd
      have e26 : ρ (.tmp 26) = .pointer (some ⟨g, 0, none⟩) := hn 26 (by decide)
      clear hn hg
      refine .inl ⟨trivial, ?_⟩
      refine .inl ⟨.pointer (some ⟨g, 0, none⟩), W, ?_, rfl, Below.refl _ _⟩
      go_simp
    refine And.intro ?_ ?_
    · intro d hd ρ W hcs bw hn hg
      cases hd
      have e27 : ρ (.tmp 27) = .pointer (some ⟨g, 0, none⟩) := hn 27 (by decide)
      clear hn hg
      refine .inl ⟨trivial, ?_⟩
      refine .inl ⟨.pointer (some ⟨g, 1, none⟩), W, ?_, rfl, Below.refl _ _⟩
      go_simp
    refine And.intro ?_ ?_
    · intro d hd ρ W hcs bw hn hg
      cases hd
      have e28 : ρ (.tmp 28) = .pointer (some ⟨g, 1, none⟩) := hn 28 (by decide)
      clear hn hg
      refine .inl ⟨trivial, ?_⟩
      have z0 : W.cell? ⟨g, 1, none⟩ = some (.slice (some ad) n cp) := (Blk.below kg bw (Blk.lt kg)).cell 1
      refine .inl ⟨.slice (some ad) n cp, W, ?_, rfl, Below.refl _ _⟩
      go_simp
    refine And.intro ?_ ?_
    · intro d hd ρ W hcs bw hn hg
      cases hd
      have e6 : ρ (.tmp 6) = .int .u64 (a : Int) := hn 6 (by decide)
      clear hn hg
      refine .inl ⟨trivial, ?_⟩
      refine .inl ⟨_, W, rfl, e6, Below.refl _ _⟩
    refine And.intro ?_ ?_
    · intro d hd ρ W hcs bw hn hg
      cases hd
      have e0 : ρ (.tmp 0) = .pointer (some ⟨g, 0, none⟩) := hn 0 (by decide)
      clear hn hg
      refine .inl ⟨trivial, ?_⟩
      refine .inl ⟨_, W, rfl, e0, Below.refl _ _⟩
    refine And.intro ?_ ?_
    · intro d hd ρ W hcs bw hn hg
      cases hd
      have e31 : ρ (.tmp 31) = .pointer (some ⟨g, 0, none⟩) := hn 31 (by decide)
      clear hn hg
      refine .inl ⟨trivial, ?_⟩
      refine .inl ⟨.pointer (some ⟨g, 0, none⟩), W, ?_, rfl, Below.refl _ _⟩
      go_simp
    refine And.intro ?_ ?_
    · intro d hd ρ W hcs bw hn hg
      cases hd
      have e32 : ρ (.tmp 32) = .pointer (some ⟨g, 0, none⟩) := hn 32 (by decide)
      clear hn hg
      refine .inl ⟨trivial, ?_⟩
      refine .inl ⟨.pointer (some ⟨g, 0, none⟩), W, ?_, rfl, Below.refl _ _⟩
      go_simp
    refine And.intro ?_ ?_
    · intro d hd ρ W hcs bw hn hg
      cases hd
      have e33 : ρ (.tmp 33) = .pointer (some ⟨g, 0, none⟩) := hn 33 (by decide)
      clear hn hg
      refine .inl ⟨trivial, ?_⟩
      have z0 : W.cell? ⟨g, 0, none⟩ = some (.int .u64 (lo : Int)) := (Blk.below kg bw (Blk.lt kg)).cell 0
      refine .inl ⟨.int .u64 (lo : Int), W, ?_, rfl, Below.refl _ _⟩
      go_simp
    refine And.intro ?_ ?_
    · intro d hd ρ W hcs bw hn hg
      cases hd
      have e30 : ρ (.tmp 30) = .int .u64 (a : Int) := hn 30 (by decide)
      have e34 : ρ (.tmp 34) = .int .u64 (lo : Int) := hn 34 (by decide)
      clear hn hg
      refine .inl ⟨trivial, ?_⟩
      refine .inl ⟨.int .u64 (j : Int), W, ?_, rfl, Below.refl _ _⟩
      go_simp
    refine And.intro ?_ ?_
    · intro d hd ρ W hcs bw hn hg
      cases hd
      have e29 : ρ (.tmp 29) = .slice (some ad) n cp := hn 29 (by decide)
      have e35 : ρ (.tmp 35) = .int .u64 (j : Int) := hn 35 (by decide)
      clear hn hg
      refine .inl ⟨trivial, ?_⟩
      refine .inl ⟨.pointer (some (ad.add j)), W, ?_, rfl, Below.refl _ _⟩
      go_simp
    refine And.intro ?_ ?_
    · intro d hd ρ W hcs bw hn hg
      cases hd
      have e36 : ρ (.tmp 36) = .pointer (some (ad.add j)) := hn 36 (by decide)
      clear hn hg
      refine .inl ⟨trivial, ?_⟩
      have z0 : W.cell? (ad.add j) = some (.int .u8 (sv : Int)) := (bw.cell hadb).trans hcell
      refine .inl ⟨.int .u8 (sv : Int), W, ?_, rfl, Below.refl _ _⟩
      go_simp
    refine And.intro ?_ ?_
    · intro d hd ρ W hcs bw hn hg
      cases hd
      have e37 : ρ (.tmp 37) = .int .u8 (sv : Int) := hn 37 (by decide)
      clear hn hg
      refine .inl ⟨trivial, ?_⟩
      refine .inl ⟨_, W, rfl, e37, Below.refl _ _⟩
    refine And.intro ?_ ?_
    · intro d hd ρ W hcs bw hn hg
      cases hd
      clear hn hg
      refine .inl ⟨trivial, ?_⟩
      refine .inl ⟨_, W, rfl, hcs.1 _, Below.refl _ _⟩
    trivial
  · intro a' w' hsz hdf hb hVs
    have q4 : a'.eval (.tmp 4) = .int .u8 (sv : Int) := hVs 4
    have q5 : a'.eval (.tmp 5) = .bool true := hVs 5
    have ha := slot_over_seg 26 12 [4, 5] rfl (by kernel_rfl) (of_decide_eq_true (by kernel_rfl)) hsz hdf hVs
    clear hVs hsz hdf
    rw [show List.range' 26 12 = [26, 27, 28, 29, 30, 31, 32, 33, 34, 35, 36, 37] from rfl] at ha
    simp only [List.take_succ_cons, List.take_zero, List.drop_succ_cons, List.drop_zero, List.map_cons, List.map_nil, List.cons_append, List.nil_append, List.foldl_cons, List.foldl_nil, List.set_cons_zero, List.set_cons_succ, q4, q5] at ha
    clear q4 q5
    generalize a'.eval (.tmp 26) = x26 at ha
    generalize a'.eval (.tmp 27) = x27 at ha
    generalize a'.eval (.tmp 28) = x28 at ha
    generalize a'.eval (.tmp 29) = x29 at ha
    generalize a'.eval (.tmp 30) = x30 at ha
    generalize a'.eval (.tmp 31) = x31 at ha
    generalize a'.eval (.tmp 32) = x32 at ha
    generalize a'.eval (.tmp 33) = x33 at ha
    generalize a'.eval (.tmp 34) = x34 at ha
    generalize a'.eval (.tmp 35) = x35 at ha
    generalize a'.eval (.tmp 36) = x36 at ha
    generalize a'.eval (.tmp 37) = x37 at ha
    subst ha
    have bz : Below w.heap.size w w' := B2.drew.trans (hb.mono B2.drew.size)
    go_wp2_with fail
    exact bodyPost_ret (v := .tuple #[.int .u8 (sv : Int), .bool true]) (by simp [results, Try.results17]) rfl ⟨rfl, bz⟩
/-- A store into one of the chain's cells. -/
theorem store_row {w : World} {g : Nat} {lo : Int} {v : Value} (hg : Blk w g 107 #[.int .u64 lo, v]) (A : Option Addr) (n k : Nat) : ∃ w', (Instr.storeAt 105 (.pointer (some ⟨g, 1, none⟩)) (.slice A n k)).run Try.prog w = .ok () w' ∧ Blk w' g 107 #[.int .u64 lo, .slice A n k] ∧ w.grownBy w' (some g) := by
  have c1 := hg.cell 1
  have f1 := hg.frozen 1
  refine ⟨w.setCell ⟨g, 1, none⟩ (.slice A n k), ?_, hg.set_ 1 _, only_setCell (World.grownBy.refl w _) (p := ⟨g, 1, none⟩) (.inl rfl) _⟩
  go_simp
theorem store_low {w : World} {g : Nat} {lo : Int} {v : Value} (hg : Blk w g 107 #[.int .u64 lo, v]) (x : Int) : ∃ w', (Instr.storeAt 26 (.pointer (some ⟨g, 0, none⟩)) (.int .u64 x)).run Try.prog w = .ok () w' ∧ Blk w' g 107 #[.int .u64 x, v] ∧ w.grownBy w' (some g) := by
  have c0 := hg.cell 0
  have f0 := hg.frozen 0
  refine ⟨w.setCell ⟨g, 0, none⟩ (.int .u64 x), ?_, hg.set_ 0 _, only_setCell (World.grownBy.refl w _) (p := ⟨g, 0, none⟩) (.inl rfl) _⟩
  go_simp
/-- append(dirs, s), behind the making of the row of s. -/
theorem app_set {w : World} {B n : Nat} {v : Value} {xs : List Nat} (ho : w.ownsRow B 27 1 v n (xs.map u8v)) (hB : B ≤ w.heap.size) (hn : n ≤ 100000) (s : Nat) :
    ∃ v' w', (Builtin.append_ #[105, 105] 105 #[v, .slice (some ⟨w.heap.size, 0, none⟩) 1 1]).run Try.prog (w.alloc (.cells #[.int .u8 (s : Int)] 27)) = .ok v' w' ∧ w'.ownsRow B 27 1 v' (n + 1) ((xs ++ [s]).map u8v) ∧ Outs v.ownBlock.toList w w' ∧ (∀ r, v'.ownBlock = some r → v.ownBlock = some r ∨ w.heap.size ≤ r) := by
  obtain ⟨i, hi, hz, hs, hby⟩ := info_set
  have hb : Below w.heap.size w (w.alloc (.cells #[.int .u8 (s : Int)] 27)) := (Below.refl _ w).alloc (Nat.le_refl _) _
  have ho1 := own1_below (h0 := w.heap.size) ho hb (fun r hr => (ho.lt r hr).2)
  have k1 := Blk.new w 27 #[.int .u8 (s : Int)]
  have hr : Reads (w.alloc (.cells #[.int .u8 (s : Int)] 27)) (w.alloc (.cells #[.int .u8 (s : Int)] 27)).heap.size 1 (some ⟨w.heap.size, 0, none⟩) 1 [u8v s] := Reads.of_own (own1_of_blk (B := 0) (n := 1) (size := 1) k1 (Nat.zero_le _) rfl (by simp) (by unfold maxLen; omega))
  obtain ⟨v', w', h1, h2, h3, h4⟩ := run_append_any (P := Try.prog) (w.alloc (.cells #[.int .u8 (s : Int)] 27)) B 105 105 27 i (.int .u8 0) 1 1 Try.underlying105 hi hz hs hby rfl (by omega) v n _ ho1 _ _ 1 1 _ hr (by simp [u8v, Value.oneCell']) (by unfold maxLen; omega) (by omega) (Nat.le_trans hB hb.size)
  refine ⟨v', w', h1, by rw [List.map_append]; exact h2, (Outs.of_below hb).trans ⟨h3.os, h3.tape, h3.output, h3.size, fun k hk hn => h3.block k hk (fun e => hn (by rw [← e]; simp))⟩, fun r hr => ?_⟩
  rcases h4 with h | h
  · exact .inl (h.symm.trans hr)
  · rw [h] at hr
    have := Option.some.inj hr
    exact .inr (by simp at this; omega)
set_option maxRecDepth 1000000 in
set_option maxHeartbeats 2000000 in
theorem push_any {B g : Nat} {c : Ch} {v : Value} {w : World} (q : ChS B g c v w) (hB : B ≤ w.heap.size) (s : Nat) (hs : s < 256) (hl : c.dirs.length < 1000) : Calls Try.prog 22 #[.pointer (some ⟨g, 0, none⟩), .int .u8 (s : Int)] w fun e w' => e = .returned (.int .i64 ((c.push s).2 : Int)) ∧ ∃ v', ChS B g (c.push s).1 v' w' ∧ QStep g v w v' w' := by
  have HD := Lib.hid (dir_any s hs w)
  have hok := push_ok q.ok hl s
  unfold Ch.push at hok ⊢
  cases hd : dirB s
  · rw [if_pos rfl]
    rw [hd] at HD
    have HQ : Hid (∃ v', ChS B g c v' w ∧ QStep g v w v' w) := ⟨v, q, QStep.of_below (Below.refl _ _)⟩
    clear q hok hd
    go_enter Try.func22, Try.ntmps22
    go_wp2_with fail
    refine HD.out.mono ?_; rintro e w' ⟨rfl, rfl⟩
    go_wp2_with fail
    go_ret
    exact ⟨rfl, HQ.out⟩
  rw [hd] at HD hok
  rw [if_neg (by decide)] at hok ⊢
  have HT := Lib.hid (top_any q)
  by_cases ht : 4611686018427387904 ≤ c.top
  · rw [if_pos ht]
    have hti : 4611686018427387904 ≤ (c.top : Int) := by omega
    have HQ : Hid (∀ w', Below w.heap.size w w' → ∃ v', ChS B g c v' w' ∧ QStep g v w v' w') := fun w' hb => ⟨v, q.below hb, QStep.of_below hb⟩
    clear q hok hd ht
    generalize c.top = tp at *
    go_enter Try.func22, Try.ntmps22
    go_wp2_with fail
    refine HD.out.mono ?_; rintro e w' ⟨rfl, rfl⟩
    go_wp2_with fail
    refine HT.out.mono ?_; rintro e w2 ⟨rfl, B2⟩
    go_wp2_with fail
    go_ret
    exact ⟨rfl, HQ.out _ B2⟩
  rw [if_neg ht] at hok ⊢
  have hti : ((4611686018427387904 : Int) ≤ (c.top : Int)) = False := eq_false (by omega)
  obtain ⟨A, n, cp, rfl, HN, hnc, hn0, hn1, _⟩ := q.slice
  have HQ := Lib.hid (And.intro q hok)
  clear q hok hd ht
  generalize c.top = tp at *
  go_enter Try.func22, Try.ntmps22
  go_wp2_with fail
  refine HD.out.mono ?_; rintro e w' ⟨rfl, rfl⟩
  go_wp2_with fail
  refine HT.out.mono ?_; rintro e w2 ⟨rfl, B2⟩
  have q2 := HQ.out.1.below B2
  have ho2 := q2.ho
  rw [HN.out] at ho2
  obtain ⟨v', w3, happ, ho3, hO3, hnw3⟩ := app_set ho2 (Nat.le_trans hB B2.size) (by omega) s
  obtain ⟨A', k', hv', _⟩ := Byt.own_slice1 ho3
  subst hv'
  have hg3 := hO3.blk q2.hg (fun hm => q2.ne (by simpa using hm))
  obtain ⟨w4, hst, hg4, hgr⟩ := store_row hg3 A' (n + 1) k'
  have ho4 := own1_grown ho3 hgr (fun r hr he => by
    rcases hnw3 r hr with h | h
    · exact q2.ne (h.trans he.symm)
    · have := q2.hg.lt
      have := Option.some.inj he
      omega)
  have g1 := q2.hg.cell 1
  have HF : Hid (∃ v', ChS B g ⟨c.low, c.dirs ++ [s]⟩ v' w4 ∧ QStep g (.slice A n cp) w v' w4) := by
    refine ⟨_, ⟨hg4, by rw [List.length_append, HN.out]; exact ho4, q2.hB, HQ.out.2⟩, QStep.after_below B2 ⟨?_, hnw3⟩⟩
    have o1 : Outs (g :: (Value.slice A n cp).ownBlock.toList) w2 w3 := ⟨hO3.os, hO3.tape, hO3.output, hO3.size, fun k hk hn => hO3.block k hk (fun hm => hn (List.mem_cons_of_mem _ hm))⟩
    exact o1.trans (Outs.of_grown hgr (by simp))
  clear q2 ho2 ho3 hO3 hnw3 hg3 hg4 hgr ho4 HD HT
  go_upto_region 7 with fail
  clear hti
  go_wp2_with (first | refine wpList_run_append (by rfl) (.tmp 20) (.tmp 22) 105 (by rfl) (by rfl) (by rfl) happ ?_ | refine wpList_store (by rfl) (.tmp 25) (.tmp 23) (by rfl) (by rfl) (by rfl) hst ?_)
  go_ret
  exact ⟨rfl, HF.out⟩
end Go.Proofs.Ytbamfnlgapchkaa.Chn
