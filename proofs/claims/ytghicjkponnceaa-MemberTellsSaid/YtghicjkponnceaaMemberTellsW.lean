/- The walk of MemberTells: what a set tells. Conditions: the arguments can be read. -/
import Derived.Test.YtghicjkponnceaaMemEach
import Derived.Test.YtghicjkponnceaaOpen
import Derived.Deep.QuietTactic
import Derived.BigQuiet
namespace Go.Proofs.Ytghicjkponnceaa.MemberTellsW
open Go.RowKit Go.WideShapes Go.ChangeShapes Mem

theorem cells5 : Try.prog.cellsOf 5 = 1 := by kernel_rfl
theorem nb {a b : Nat} (h : a = b) : ((a : Int) != (b : Int)) = false := by rw [h]; simp
theorem nbb {a b : Bool} (h : a = b) : (a != b) = false := by rw [h]; simp

/-- What holds at the head of a round of the first loop. -/
def FewAt (n : Int) (w : World) (v i : Value) (wr : World) : Prop :=
  ∃ k : Nat, k ≤ 7 ∧ (k = 0 ∨ (k : Int) ≤ n) ∧ i = .int .i64 k ∧ wr.ownsRow w.heap.size 5 1 v (List.range k).length ((List.range k).map u8v) ∧ Below w.heap.size w wr

set_option maxRecDepth 100000 in
set_option maxHeartbeats 4000000 in
theorem core (x n1 : Nat) (l : List Nat) (A : Option Addr) (c : Nat) (n : Int) (hx : x < 256) (h1 : n1 < 256) (hl : ∀ y ∈ l, y < 256) (hn : -9223372036854775808 ≤ n ∧ n ≤ 9223372036854775807) (hlm : l.length ≤ maxLen) (w : World) (hr : Reads w w.heap.size 1 A l.length (l.map u8v)) :
    Calls Try.prog 6 #[.int .u8 (x : Int), .slice A l.length c, .int .i64 n, .int .u8 (n1 : Int)] w fun e w' => e = .returned (.bool true) ∧ Below w.heap.size w w' := by
  obtain ⟨i0, hi, hz0, hz1, hz2⟩ := info_parts info_u8
  unfold maxLen at hlm
  by_cases hg : 100 < l.length
  · go_enter Try.func6, Try.ntmps6
    go_wp2_with (go_at_call 25; refine (wakes_below _).mono ?_; rintro e w9 ⟨rfl, hb9⟩)
    go_ret
    exact ⟨rfl, hb9⟩
  · have m1 : (listN x).length ≤ 7 := by rw [len_list]; exact lenN_le x
    have HR := Lib.hid hr
    have HL := Lib.hid hl
    clear hr hl
    go_enter Try.func6, Try.ntmps6
    go_wp2_with fail
    refine (list_any x hx _).mono ?_
    rintro e w1 ⟨A1, c1, rfl, r1, b1⟩
    go_wp2_with fail
    refine (told_all x hx _).mono ?_
    rintro e w2 ⟨A2, c2, rfl, r2, b2⟩
    have R1 := Lib.hid ((r1.below b2).more b2.size)
    have R2 := Lib.hid r2
    have b02 := b1.trans (b2.mono b1.size)
    have HR2 := Lib.hid ((HR.out.below b02).more b02.size)
    clear r1 r2 b1 b2
    go_wp2_with fail
    go_loopw [12, 13] (fun v i wr => FewAt n w2 v i wr) (fun _ i _ => 7 - (intOf i).toNat)
    case atStart => exact ⟨0, by omega, .inl rfl, rfl, World.ownsRow_nil _ _ _ _, Below.refl _ _⟩
    case round =>
      obtain ⟨k, hk, hkn, rfl, hown, hB⟩ := hrel
      have hlen : (List.range k).length = k := List.length_range
      have HLEN := Lib.hid hlen
      by_cases hgo : (k : Int) < n ∧ k < 7
      · obtain ⟨hlt, h7⟩ := hgo
        have HS := Lib.hid (List.range_succ (n := k))
        rw [hlen] at hown
        clear hlen
        go_wp2_with (at_builtin; refine wpList_append_own _ rfl (.tmp 33) (.tmp 36) 44 rfl w2.heap.size 5 i0 (.int .u8 0) 1 1 Try.underlying44 hi hz0 hz1 hz2 rfl (by decide) _ _ _ rfl (hown.alloc _) ⟨wr.heap.size, 0, none⟩ 1 1 [.int .u8 (k : Int)] rfl rfl (cell_one_new _ _ _) (by simp [Value.oneCell']) (by unfold maxLen; omega) (by omega) (by have := hB.size; simp; omega) ?_; intro v' w1 hown' hgrow _)
        have hB1 := own_step hown hB hB.size hgrow
        exact ⟨⟨k + 1, by omega, .inr (by omega), by go_num, by rw [HS.out]; simpa [u8v, HLEN.out] using hown', hB1⟩, by simp [intOf]; omega⟩
      · have hkc : k = clampN n := by unfold clampN; omega
        have f1 := nb (of_set l)
        have f2 : (((firstN n : Nat) : Int) != ((setN (List.range k) : Nat) : Int)) = false := by rw [hkc]; exact nb (first_set n)
        have f3 := (has_ref x n1).symm
        have f4 := nb (len_list x).symm
        have f6 : (((leastOne x : Nat) : Int) != min 1 ((listN x).length : Int)) = false := by rw [leastOne_eq]; simp
        have hd : ((k : Int) < n ∧ ¬ (k : Int) < 7) ∨ ¬ (k : Int) < n := by omega
        obtain ⟨A3, c3, rfl, r3⟩ := own_slice hown
        rw [hlen] at r3
        have BL : ∀ y ∈ List.range k, y < 256 := fun y hy => by have := List.mem_range.1 hy; omega
        have Q1 := Lib.hid ((R1.out.below hB).more hB.size)
        have Q2 := Lib.hid ((R2.out.below hB).more hB.size)
        have Q3 := Lib.hid r3
        have HQ := Lib.hid ((HR2.out.below hB).more hB.size)
        have hlq : (List.range k).length ≤ 7 := by rw [hlen]; exact hk
        clear hown r3 hgo hlen hkc
        rcases hd with ⟨hd1, hd2⟩ | hd1
        all_goals
          go_wp2_with fail
          refine (of_any _ _ _ l rfl HL.out _ (nums_reads HQ.out) (by unfold maxLen; omega)).mono ?_; rintro e w' ⟨rfl, rfl⟩
          go_wp2_with fail
          refine (setRef_any _ _ _ l rfl (by unfold maxLen; omega) _ (nums_reads HQ.out)).mono ?_; rintro e w' ⟨rfl, rfl⟩
          go_wp2_with fail
          refine (first_any _ _).mono ?_; rintro e w' ⟨rfl, rfl⟩
          go_wp2_with fail
          refine (setRef_any _ _ _ (List.range k) List.length_range.symm (by unfold maxLen; omega) _ (nums_reads Q3.out)).mono ?_; rintro e w' ⟨rfl, rfl⟩
          go_wp2_with fail
          refine (has_any x n1 hx h1 _).mono ?_; rintro e w' ⟨rfl, rfl⟩
          have hz := hB.size
          have P1 := Lib.hid (Q1.out.alloc (Nat.le_refl _) (.cells #[.int .u8 (n1 : Int)] 5))
          have P2 := Lib.hid (Q2.out.alloc (Nat.le_refl _) (.cells #[.int .u8 (n1 : Int)] 5))
          go_wp2_with fail
          refine (hasRef_any _ _ _ (listN x) n1 rfl (by unfold maxLen; omega) _ (nums_reads P1.out)).mono ?_; rintro e w' ⟨rfl, rfl⟩
          go_wp2_with fail
          refine (len_any _ hx _).mono ?_; rintro e w' ⟨rfl, rfl⟩
          go_wp2_with fail
          refine (told_1 x hx _).mono ?_; rintro e w5 ⟨A5, c5, rfl, b5⟩
          have b25 : Below w2.heap.size w2 w5 := (hB.alloc hB.size _).trans (b5.mono (by simp; omega))
          have O1 := Lib.hid (R1.out.below b25)
          have O2 := Lib.hid (R2.out.below b25)
          clear P1 P2 Q1 Q2 Q3 HQ HR2 b5 hB
          go_wp2_with fail
          go_loopw [14] (fun i wr => ∃ k : Nat, k ≤ (listN x).length ∧ i = .int .i64 k ∧ Below w2.heap.size w2 wr) (fun i _ => (listN x).length - (intOf i).toNat)
          case atStart => exact ⟨0, by omega, rfl, b25⟩
          case round =>
            obtain ⟨j, hj, rfl, hBj⟩ := hrel
            by_cases hjl : j < (listN x).length
            · obtain ⟨ad1, y, e1, hy1, hc1⟩ := reads_u8 (R1.out.below hBj) j hjl
              obtain ⟨ad2, y2, e2, hy2, hc2⟩ := reads_u8 (R2.out.below hBj) j hjl
              subst e1
              subst e2
              obtain rfl : y = y2 := by rw [hy1] at hy2; injection hy2
              clear hy1 hy2
              go_wp2_with fail
              go_quiet (fail)
              go_wp2_with fail
              exact ⟨⟨j + 1, by omega, by go_num, below_drewN hBj _⟩, by simp [intOf]; omega⟩
            · go_wp2_with (go_at_call 25; refine (wakes_below _).mono ?_; rintro e w9 ⟨rfl, hb9⟩)
              go_ret
              exact ⟨rfl, (b02.trans (hBj.mono b02.size)).trans (hb9.mono (Nat.le_trans b02.size hBj.size))⟩

set_option maxRecDepth 100000 in
theorem walk {H : Type} {enc : TypeId × Value → H} (W : World) (base : Nat) (v0 : Value) (d0 : DataW H) (p0 : List MemPlace) (v1 : Value) (d1 : DataW H) (p1 : List MemPlace) (v2 : Value) (d2 : DataW H) (p2 : List MemPlace) (v3 : Value) (d3 : DataW H) (p3 : List MemPlace)
    (h0 : DataW.Trod enc Try.prog W 0 (fun _ => true) true 5 v0 d0 p0) (h1 : DataW.Trod enc Try.prog W 0 (fun _ => true) true 44 v1 d1 p1) (h2 : DataW.Trod enc Try.prog W 0 (fun _ => true) true 3 v2 d2 p2) (h3 : DataW.Trod enc Try.prog W 0 (fun _ => true) true 5 v3 d3 p3)
    (k0 : Value.okWide Try.prog W .any base 5 v0) (k1 : Value.okWide Try.prog W .any base 44 v1) (k2 : Value.okWide Try.prog W .any base 3 v2) (k3 : Value.okWide Try.prog W .any base 5 v3)
    (_l0 : ∀ x ∈ p0, x.block < W.heap.size) (_l1 : ∀ x ∈ p1, x.block < W.heap.size) (_l2 : ∀ x ∈ p2, x.block < W.heap.size) (_l3 : ∀ x ∈ p3, x.block < W.heap.size) :
    Calls Try.prog 6 #[v0, v1, v2, v3] W fun e w' => e = .returned (.bool true) ∧ Below W.heap.size W w' := by
  obtain ⟨a0, rfl, _, _, w0⟩ := open_int Try.underlying5 k0 h0
  obtain ⟨a2, rfl, _, _, w2⟩ := open_int Try.underlying3 k2 h2
  obtain ⟨a3, rfl, _, _, w3⟩ := open_int Try.underlying5 k3 h3
  obtain ⟨A, c, zs, rfl, hr, hwf, hlc, hcm⟩ := open_ints_list Try.underlying44 Try.underlying5 cells5 h1 k1
  obtain ⟨l, rfl, hl⟩ := nats_of_u8 zs hwf
  have b0 := bounds_u8 w0
  have b2 := bounds_i64 w2
  have b3 := bounds_u8 w3
  obtain ⟨x, rfl⟩ := Int.eq_ofNat_of_zero_le b0.1
  obtain ⟨m, rfl⟩ := Int.eq_ofNat_of_zero_le b3.1
  rw [List.length_map] at hr hlc ⊢
  rw [List.map_map] at hr
  exact core x m l A c a2 (by omega) (by omega) hl b2 (Nat.le_trans hlc hcm) W hr
end Go.Proofs.Ytghicjkponnceaa.MemberTellsW
