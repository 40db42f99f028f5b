/- The reader's numbers and texts, walked. Conditions: as in the reader's text. -/
import Derived.Laws.Bits64
import Derived.Laws.BitsAllLaws
import Derived.Test.YteiaiilfekojfaaGreatQNetOrderWire
import Derived.Test.YteiaiilfekojfaaGreatQNetOrderWidth
namespace Go.Proofs.YteiaiilfekojfaaGreat.Wire
open Go.RowKit

theorem u64_or_byte (v b : Nat) (hv : v * 256 < 18446744073709551616) (hb : b < 256) : bits .or .u64 ((v : Int) * 256) (IntKind.u64.wrap (b : Int)) = ((v * 256 + b : Nat) : Int) := by
  rw [IntKind.wrap_u64]
  have e1 : (v : Int) * 256 = ((v * 256 : Nat) : Int) := by omega
  have e2 : (b : Int) % 18446744073709551616 = ((b : Nat) : Int) := by omega
  rw [e1, e2, u64_or_nat _ _ (by omega) (by omega)]
  congr 1
  have h := Nat.shiftLeft_add_eq_or_of_lt (i := 8) (b := b) (by omega) v
  rw [Nat.shiftLeft_eq] at h
  exact h.symm
theorem num_step {s : List UInt8} {j k v : Nat} (hv : Hid (v = valB (s.take j))) (hj : j < k) (hk : k ≤ 8) (hs : j < s.length) :
    v * 256 < 18446744073709551616 ∧ Hid (v * 256 + s[j].toNat = valB (s.take (j + 1))) ∧ v * 256 + s[j].toNat < 18446744073709551616 := by
  have hlt := valB_take_lt s j
  rw [← hv.out] at hlt
  have hp : 256 ^ j ≤ 256 ^ 7 := Nat.pow_le_pow_right (by omega) (by omega)
  have hp7 : (256 : Nat) ^ 7 = 72057594037927936 := by decide
  have hb := s[j].toNat_lt
  refine ⟨by omega, ?_, by omega⟩
  show _ = _
  rw [hv.out]
  exact (valB_take s j s[j] (List.getElem?_eq_getElem hs)).symm

set_option maxRecDepth 100000 in
set_option maxHeartbeats 2000000 in
theorem num_any (g : Nat) (r : Rd) (hl : r.rest.length < 4611686018427387904) (w : World) (h : RdAt w g r) :
    Calls Tryz.prog 140 #[.pointer (some ⟨g, 0, none⟩)] w fun e w' => NumRet w g r.num e w' := by
  have hb := byte_any g r hl w h
  unfold Rd.num
  obtain ⟨c, r1, hp⟩ : ∃ c r1, r.byte = (c, r1) := ⟨_, _, rfl⟩
  rw [hp] at hb ⊢
  have HB := Lib.hid hb
  have hc := byte_lt hp
  have hl1 := Nat.lt_of_le_of_lt (byte_rest hp) hl
  clear hb hp h hl
  simp only
  by_cases h8 : c < 248
  · rw [if_pos h8]
    go_enter Tryz.func140, Tryz.ntmps140
    go_wp2_with fail
    refine HB.out.mono ?_; rintro e w1 ⟨rfl, hgo⟩
    go_wp2_with fail
    go_ret
    exact ⟨rfl, hgo⟩
  · rw [if_neg h8]
    obtain ⟨k, hk⟩ : ∃ k, c = 247 + k := ⟨c - 247, by omega⟩
    subst hk
    have hk1 : 1 ≤ k := by omega
    have hk8 : k ≤ 8 := by omega
    rw [show 247 + k - 247 = k from by omega]
    obtain ⟨s, ok, r2, ht⟩ : ∃ s ok r2, r1.take k = (s, ok, r2) := ⟨_, _, _, rfl⟩
    rw [ht]
    have HT : Hid (∀ w1, RdAt w1 g r1 → Calls Tryz.prog 96 #[.pointer (some ⟨g, 0, none⟩), .int .u64 (k : Int)] w1 fun e w' => TakeRet w1 g (s, ok, r2) e w') := fun w1 h1 => by
      have := take_any g r1 k hl1 w1 h1
      rwa [ht] at this
    cases ok
    · clear ht
      go_enter Tryz.func140, Tryz.ntmps140
      go_wp2_with fail
      refine HB.out.mono ?_; rintro e w1 ⟨rfl, hgo⟩
      go_wp2_with fail
      rw [show ((247 : Int) + (k : Int) - 247) = (k : Int) from by omega]
      refine (HT.out _ hgo.1).mono ?_; rintro e w2 ⟨rfl, hgo2⟩
      go_wp2_with fail
      go_ret
      exact ⟨rfl, hgo.trans hgo2⟩
    · have hs := take_len ht
      have HS := Lib.hid hs
      clear ht hs
      simp only
      generalize hp : (if valB s < 248 ∨ widthN (valB s) ≠ k then (0, r2.fail 4) else (valB s, r2)) = p
      have HP := Lib.hid hp
      clear hp
      go_enter Tryz.func140, Tryz.ntmps140
      go_wp2_with fail
      refine HB.out.mono ?_; rintro e w1 ⟨rfl, hgo⟩
      go_wp2_with fail
      rw [show ((247 : Int) + (k : Int) - 247) = (k : Int) from by omega]
      refine (HT.out _ hgo.1).mono ?_; rintro e w2 ⟨rfl, hgo2⟩
      go_wp2_with fail
      go_loop [7, 28] (fun n i => ∃ j v : Nat, j ≤ k ∧ i = .int .i64 j ∧ n = .int .u64 (v : Int) ∧ Hid (v = valB (s.take j)) ∧ v < 18446744073709551616) (fun _ i => k - (intOf i).toNat)
      case atStart => exact ⟨0, 0, by omega, rfl, rfl, rfl, by omega⟩
      case round =>
        obtain ⟨j, v, hj, rfl, rfl, hv, hv64⟩ := hrel
        by_cases hjk : j < k
        · have hjs : j < s.length := by rw [HS.out]; exact hjk
          have hix := index_str s j s[j] (List.getElem?_eq_getElem hjs)
          have hsz := size_str s
          have hlt := s[j].toNat_lt
          obtain ⟨g1, g2, g3⟩ := num_step hv hjk hk8 hjs
          have hlt2 : s[j].toNat < 256 := by omega
          clear hlt
          go_wp2
          exact ⟨⟨j + 1, v * 256 + s[j].toNat, by omega, by go_num, by rw [← u64_or_byte v s[j].toNat g1 hlt2]; rfl, g2, g3⟩, by simp [intOf]; omega⟩
        · obtain rfl : j = k := by omega
          have hvs : v = valB s := by rw [hv.out, List.take_of_length_le (by rw [HS.out]; exact Nat.le_refl _)]
          subst hvs
          have hgo3 := hgo.trans hgo2
          by_cases h2 : valB s < 248
          · have hform : Hid (valB s < 248 ∨ widthN (valB s) ≠ j) := .inl h2
            go_wp2_with fail
            refine (fail_any _ g r2 4 hgo2.1).mono ?_; rintro e w3 ⟨⟨v, rfl⟩, hgo4⟩
            go_wp2_with fail
            go_ret
            rw [← HP.out, if_pos hform.out]
            exact ⟨rfl, hgo3.trans hgo4⟩
          · by_cases h3 : widthN (valB s) = j
            · have hform : Hid (¬ (valB s < 248 ∨ widthN (valB s) ≠ j)) := by show ¬ _; omega
              have h3b : (((widthN (valB s) : Nat) : Int) != (j : Int)) = false := by rw [h3]; simp
              clear h3
              go_wp2_with fail
              refine (width_any _ hv64 _).mono ?_; rintro e w' ⟨rfl, rfl⟩
              go_wp2_with fail
              go_ret
              rw [← HP.out, if_neg hform.out]
              exact ⟨rfl, hgo3⟩
            · have hform : Hid (valB s < 248 ∨ widthN (valB s) ≠ j) := .inr h3
              have h3b : (((widthN (valB s) : Nat) : Int) != (j : Int)) = true := by rw [bne_iff_ne]; omega
              clear h3
              go_wp2_with fail
              refine (width_any _ hv64 _).mono ?_; rintro e w' ⟨rfl, rfl⟩
              go_wp2_with fail
              refine (fail_any _ g r2 4 hgo2.1).mono ?_; rintro e w3 ⟨⟨v, rfl⟩, hgo4⟩
              go_wp2_with fail
              go_ret
              rw [← HP.out, if_pos hform.out]
              exact ⟨rfl, hgo3.trans hgo4⟩

set_option maxHeartbeats 1000000 in
theorem below_any (g : Nat) (r : Rd) (n : Nat) (hl : r.rest.length < 4611686018427387904) (w : World) (h : RdAt w g r) :
    Calls Tryz.prog 164 #[.pointer (some ⟨g, 0, none⟩), .int .u64 (n : Int)] w fun e w' => NumRet w g (r.below n) e w' := by
  have hb := num_any g r hl w h
  unfold Rd.below
  obtain ⟨c, r1, hp⟩ : ∃ c r1, r.num = (c, r1) := ⟨_, _, rfl⟩
  rw [hp] at hb ⊢
  have HB := Lib.hid hb
  clear hb hp h hl
  simp only
  by_cases he : r1.err ≠ 0
  · have hf := failB_yes he
    rw [if_pos he]
    clear he
    go_enter Tryz.func164, Tryz.ntmps164
    go_wp2_with fail
    refine HB.out.mono ?_; rintro e w1 ⟨rfl, hgo⟩
    go_wp2_with fail
    refine (failed_any _ g r1 hgo.1).mono ?_; rintro e w' ⟨rfl, rfl⟩
    go_wp2_with fail
    go_ret
    exact ⟨rfl, hgo⟩
  · have hf := failB_no (r := r1) (by omega)
    rw [if_neg he]
    clear he
    by_cases hc : n ≤ c
    · rw [if_pos hc]
      go_enter Tryz.func164, Tryz.ntmps164
      go_wp2_with fail
      refine HB.out.mono ?_; rintro e w1 ⟨rfl, hgo⟩
      go_wp2_with fail
      refine (failed_any _ g r1 hgo.1).mono ?_; rintro e w' ⟨rfl, rfl⟩
      go_wp2_with fail
      refine (fail_any _ g r1 4 hgo.1).mono ?_; rintro e w3 ⟨⟨v, rfl⟩, hgo4⟩
      go_wp2_with fail
      go_ret
      exact ⟨rfl, hgo.trans hgo4⟩
    · rw [if_neg hc]
      go_enter Tryz.func164, Tryz.ntmps164
      go_wp2_with fail
      refine HB.out.mono ?_; rintro e w1 ⟨rfl, hgo⟩
      go_wp2_with fail
      refine (failed_any _ g r1 hgo.1).mono ?_; rintro e w' ⟨rfl, rfl⟩
      go_wp2_with fail
      go_ret
      exact ⟨rfl, hgo⟩

theorem Below_any (g : Nat) (r : Rd) (n : Nat) (hl : r.rest.length < 4611686018427387904) (w : World) (h : RdAt w g r) :
    Calls Tryz.prog 92 #[.pointer (some ⟨g, 0, none⟩), .int .u64 (n : Int)] w fun e w' => NumRet w g (r.below n) e w' := by
  have HB := Lib.hid (below_any g r n hl w h)
  go_enter Tryz.func92, Tryz.ntmps92
  go_wp2_with fail
  refine HB.out.mono ?_; rintro e w1 ⟨rfl, hgo⟩
  go_wp2_with fail
  go_ret
  exact ⟨rfl, hgo⟩

def StrRet (w : World) (g : Nat) (p : List UInt8 × Rd) (e : Ending) (w' : World) : Prop := e = .returned (.string ⟨p.1.toArray⟩) ∧ RdGo w g p.2 w'
theorem most_eq (m : Int) (h1 : -9223372036854775808 ≤ m) (h2 : m ≤ 9223372036854775807) : ∃ n : Nat, n = (max m 0).toNat ∧ (n : Int) = max m 0 ∧ n ≤ 9223372036854775807 := ⟨_, rfl, by omega, by omega⟩
set_option maxRecDepth 100000 in
theorem str_any (g : Nat) (r : Rd) (m : Int) (h1 : -9223372036854775808 ≤ m) (h2 : m ≤ 9223372036854775807) (hl : r.rest.length < 4611686018427387904) (w : World) (h : RdAt w g r) :
    Calls Tryz.prog 124 #[.pointer (some ⟨g, 0, none⟩), .int .i64 m] w fun e w' => StrRet w g (r.str m) e w' := by
  obtain ⟨n, hn0, hn, hn2⟩ := most_eq m h1 h2
  have hb := below_any g r (n + 1) hl w h
  unfold Rd.str
  rw [← hn0]
  have hm : max m 0 = (n : Int) := hn.symm
  obtain ⟨c, r1, hp⟩ : ∃ c r1, r.below (n + 1) = (c, r1) := ⟨_, _, rfl⟩
  rw [hp] at hb ⊢
  have HB := Lib.hid hb
  have hl1 := Nat.lt_of_le_of_lt (below_rest hp) hl
  clear hb hp h hl hn0 hn
  simp only
  go_enter Tryz.func124, Tryz.ntmps124
  go_wp2_with fail
  refine HB.out.mono ?_; rintro e w1 ⟨rfl, hgo⟩
  go_wp2_with fail
  refine (take_any g r1 c hl1 w1 hgo.1).mono ?_; rintro e w2 ⟨rfl, hgo2⟩
  go_wp2_with fail
  go_ret
  exact ⟨rfl, hgo.trans hgo2⟩

theorem bad_any (g : Nat) (r : Rd) (w : World) (h : RdAt w g r) :
    Calls Tryz.prog 93 #[.pointer (some ⟨g, 0, none⟩)] w fun e w' => (∃ v, e = .returned v) ∧ RdGo w g r.bad w' := by
  go_enter Tryz.func93, Tryz.ntmps93
  go_wp2_with fail
  refine (fail_any _ g r 4 h).mono ?_; rintro e w3 ⟨⟨v, rfl⟩, hgo4⟩
  go_wp2_with fail
  go_end0
  exact ⟨⟨_, rfl⟩, hgo4⟩
theorem left_any (g : Nat) (r : Rd) (w : World) (h : RdAt w g r) :
    Calls Tryz.prog 95 #[.pointer (some ⟨g, 0, none⟩)] w fun e w' => e = .returned (.int .i64 (r.left : Int)) ∧ w = w' := by
  have c1 := h.c1
  have hsz := size_str r.rest
  unfold Rd.left
  by_cases he : r.err ≠ 0
  · have hf := failB_yes he
    rw [if_pos he]
    clear he
    go_enter Tryz.func95, Tryz.ntmps95
    go_wp2_with fail
    refine (failed_any _ g r h).mono ?_; rintro e w' ⟨rfl, rfl⟩
    go_wp2_with fail
    go_ret
    exact ⟨rfl, rfl⟩
  · have hf := failB_no (r := r) (by omega)
    rw [if_neg he]
    clear he
    go_enter Tryz.func95, Tryz.ntmps95
    go_wp2_with fail
    refine (failed_any _ g r h).mono ?_; rintro e w' ⟨rfl, rfl⟩
    go_wp2_with fail
    go_ret
    exact ⟨rfl, rfl⟩
theorem err_any (g : Nat) (r : Rd) (w : World) (h : RdAt w g r) :
    Calls Tryz.prog 94 #[.pointer (some ⟨g, 0, none⟩)] w fun e w' => e = .returned (.int .i64 (r.err : Int)) ∧ w = w' := by
  have c0 := h.c0
  go_enter Tryz.func94, Tryz.ntmps94
  go_wp2
  go_ret
  exact ⟨rfl, rfl⟩
def EndRet (w : World) (g : Nat) (r : Rd) (e : Ending) (w' : World) : Prop := e = .returned (.int .i64 (r.err : Int)) ∧ RdGo w g r w'
theorem end_any (g : Nat) (r : Rd) (w : World) (h : RdAt w g r) :
    Calls Tryz.prog 59 #[.pointer (some ⟨g, 0, none⟩)] w fun e w' => EndRet w g r.end_ e w' := by
  have c1 := h.c1
  have hsz := size_str r.rest
  unfold Rd.end_
  by_cases he : 0 < r.rest.length
  · rw [if_pos he]
    have hd : (0 : Int) < (r.rest.length : Int) := by omega
    clear he
    go_enter Tryz.func59, Tryz.ntmps59
    go_wp2_with fail
    refine (fail_any _ g r 4 h).mono ?_; rintro e w3 ⟨⟨v, rfl⟩, hgo4⟩
    have c0 := hgo4.1.c0
    go_wp2_with fail
    go_ret
    exact ⟨rfl, hgo4⟩
  · rw [if_neg he]
    have hd : ¬ (0 : Int) < (r.rest.length : Int) := by omega
    have c0 := h.c0
    clear he
    have H := Lib.hid h.go
    go_enter Tryz.func59, Tryz.ntmps59
    go_wp2_with fail
    go_ret
    exact ⟨rfl, H.out⟩
end Go.Proofs.YteiaiilfekojfaaGreat.Wire
