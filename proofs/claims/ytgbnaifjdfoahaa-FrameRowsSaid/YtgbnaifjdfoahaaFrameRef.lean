/- All frames of a text by the document, and two rows of texts compared: walked. Conditions: texts of at most 1,000,000 bytes. -/
import Derived.Test.YtgbnaifjdfoahaaFrameSplit
namespace Go.Proofs.Ytgbnaifjdfoahaa.Frame
open Go.RowKit Wire

theorem own_below {w w' : World} {b : Nat} {e : TypeId} {size n : Nat} {v : Value} {xs : List Value} (h : w.ownsRow b e size v n xs) (hb : Below w.heap.size w w') : w'.ownsRow b e size v n xs := by
  refine h.kept (only_of_below hb none) ?_
  rcases h.2 with ⟨rfl, _⟩ | ⟨g, cap, cur, rfl, _⟩
  · exact .inl rfl
  · exact .inr (by simp [Value.ownBlock])
def RefSplAt (w : World) (s : List UInt8) (v i : Value) (wr : World) : Prop :=
  ∃ (k : Nat) (pre : List (Nat × List UInt8)), i = .int .i64 (k : Int) ∧ SplitAt s pre k ∧ wr.ownsRow w.heap.size 9 1 v pre.length (sv (pre.map Prod.snd)) ∧ Below w.heap.size w wr
set_option linter.unusedSimpArgs false in
set_option maxRecDepth 100000 in
set_option maxHeartbeats 4000000 in
theorem refSplit_any (s : List UInt8) (hs : s.length ≤ 1000000) (w : World) : Calls Try.prog 37 #[.string ⟨s.toArray⟩] w fun e w' => RetSplit w s e w' := by
  obtain ⟨i0, hi, hz0, hz1, hz2⟩ := info_parts info_str
  have hsz := size_str s
  go_enter Try.func37, Try.ntmps37
  go_wp2_with fail
  go_loopw [5, 6] (fun v i wr => RefSplAt w s v i wr) (fun _ i _ => s.length - (intOf i).toNat)
  case atStart => exact ⟨0, [], rfl, SplitAt.start s, World.ownsRow_nil _ _ _ _, Below.refl _ _⟩
  case round =>
    obtain ⟨k, pre, rfl, hsp, hrow, hB⟩ := hrel
    by_cases hlt : k < s.length
    · have hlt2 : (k : Int) < (s.length : Int) := by omega
      have E2 := drop_str s k
      rw [hsz] at E2
      have hdl : (s.drop k).length = s.length - k := List.length_drop
      obtain ⟨a, m, er, htk⟩ : ∃ a m er, takeF (s.drop k) = (a, m, er) := ⟨_, _, _, rfl⟩
      have hT := fun Wx => refTake_any (s.drop k) (by omega) Wx
      rw [htk] at hT
      have HT := Lib.hid hT
      by_cases her : er = 0
      · subst her
        obtain ⟨hsp2, hm, _⟩ := hsp.next hlt htk
        have hkm := hsp2.le
        have HSP := Lib.hid hsp2
        have hpl := hsp.len
        clear hT htk hsp hsp2
        go_wp2_with fail
        refine (HT.out _).mono ?_; rintro e w' ⟨rfl, hB1⟩
        have hrow1 := own_below hrow hB1
        have hBw := hB.trans (hB1.mono hB.size)
        go_wp2_with (at_builtin; go_must (refine wpList_append_own _ rfl (.tmp 27) (.tmp 29) 59 rfl w.heap.size 9 i0 (.string ⟨#[]⟩) 1 16 Try.underlying59 hi hz0 hz1 hz2 rfl (by decide) _ _ _ rfl (hrow1.alloc _) ⟨w'.heap.size, 0, none⟩ 1 1 [strV a] rfl rfl (cell_one_new _ _ _) (by simp [Value.oneCell', strV]) (by unfold maxLen; omega) (by omega) (by have := hBw.size; simp; omega) ?_); intro v3 w3 hown3 hgrow3 _)
        have hB3 := own_step hrow1 hBw hBw.size hgrow3
        exact ⟨⟨k + m, pre ++ [(k, a)], by go_num, HSP.out, by simpa [sv] using hown3, hB3⟩, by simp [intOf]; omega⟩
      · obtain ⟨hpf, hen, hwh⟩ := hsp.bad hlt (by rw [htk]) her
        have hne : ((er : Int) != 0) = true := by rw [bne_iff_ne]; omega
        have HPF := Lib.hid hpf
        have HEN := Lib.hid hen
        have HWH := Lib.hid hwh
        clear hT htk hsp hpf hen hwh her
        go_wp2_with fail
        refine (HT.out _).mono ?_; rintro e w' ⟨rfl, hB1⟩
        have hrow1 := own_below hrow hB1
        have hBw := hB.trans (hB1.mono hB.size)
        go_wp2_with fail
        go_ret3
        unfold RetSplit
        rw [← HPF.out, HEN.out, HWH.out]
        exact ⟨_, rfl, hrow1, hBw⟩
    · obtain ⟨hpf, hen, hwh⟩ := hsp.stop (by omega)
      obtain rfl : k = s.length := by have := hsp.le; omega
      have HPF := Lib.hid hpf
      have HEN := Lib.hid hen
      have HWH := Lib.hid hwh
      clear hsp hpf hen hwh
      go_wp2_with fail
      go_ret3
      unfold RetSplit
      rw [← HPF.out, HEN.out, HWH.out]
      exact ⟨_, rfl, hrow, hB⟩

def SameAt (w : World) (a b : List (List UInt8)) (n gk : Nat) (i : Value) (wr : World) : Prop :=
  ∃ k : Nat, k + gk = n ∧ i = .int .i64 (k : Int) ∧ a.take k = b.take k ∧ Below w.heap.size w wr
theorem str_at {w : World} {B n : Nat} {A : Option Addr} {l : List (List UInt8)} {k : Nat} (h : Reads w B 1 A n (sv l)) (hk : k < n) : ∃ ad x, A = some ad ∧ ad.block < B ∧ l[k]? = some x ∧ w.cell? (ad.add k) = some (.string ⟨x.toArray⟩) := by
  obtain ⟨ad, u, e, hb, hu, hc⟩ := h.at_ hk
  unfold sv at hu
  rw [List.getElem?_map] at hu
  cases hx : l[k]? with
  | none => rw [hx] at hu; cases hu
  | some x =>
    rw [hx] at hu
    obtain rfl : strV x = u := Option.some.inj hu
    exact ⟨ad, x, e, hb, rfl, hc⟩
set_option linter.unusedSimpArgs false in
set_option maxRecDepth 100000 in
set_option maxHeartbeats 4000000 in
theorem same_any (a b : List (List UInt8)) (A1 A2 : Option Addr) (c1 c2 : Nat) (ha : a.length < 4611686018427387904) (hb : b.length < 4611686018427387904) (w : World) (h1 : Reads w w.heap.size 1 A1 a.length (sv a)) (h2 : Reads w w.heap.size 1 A2 b.length (sv b)) :
    Calls Try.prog 34 #[.slice A1 a.length c1, .slice A2 b.length c2] w fun e w' => e = .returned (.bool (a == b)) ∧ Below w.heap.size w w' := by
  by_cases hl : a.length = b.length
  · have HL := Lib.hid hl
    rw [← hl] at h2 hb ⊢
    clear hl
    obtain ⟨B, hB⟩ : ∃ B, (a == b) = B := ⟨_, rfl⟩
    have HB := Lib.hid hB
    rw [hB]
    clear hB
    generalize hn : a.length = n at *
    have HN := Lib.hid hn
    clear hn
    go_enter Try.func34, Try.ntmps34
    go_wp2_with fail
    go_loopg [5] n (fun gk i wr => SameAt w a b n gk i wr)
    case atStart => exact ⟨0, by omega, rfl, by simp, Below.refl _ _⟩
    case round =>
      obtain ⟨k, hk, rfl, heq, hB⟩ := hrel
      by_cases h8 : k < n
      · have hk8 : (k : Int) < (n : Int) := by omega
        obtain ⟨ad1, x, rfl, hb1, hx, d1⟩ := str_at (h1.below hB) h8
        obtain ⟨ad2, y, rfl, hb2, hy, d2⟩ := str_at (h2.below hB) h8
        by_cases hxy : x = y
        · subst hxy
          have hnx : a.take (k + 1) = b.take (k + 1) := by rw [List.take_add_one, List.take_add_one, heq, hx, hy]
          have HNX := Lib.hid hnx
          have hB' := hB.drew
          clear heq hnx hx hy h1 h2
          go_wp2_with fail
          go_region_held_law (fun W => W.cell? (ad1.add k) = some (.string ⟨x.toArray⟩) ∧ W.cell? (ad2.add k) = some (.string ⟨x.toArray⟩)) (exact ⟨d1, d2⟩) (fail)
          go_wp2_with fail
          go_roundg (n - (k + 1))
          case measure => omega
          case rel => exact ⟨k + 1, by omega, by go_num, HNX.out, hB'⟩
        · have hxb : (x == y) = false := beq_eq_false_iff_ne.2 hxy
          have hbf : Hid (false = B) := by
            show _ = _
            rw [← HB.out]
            refine (beq_eq_false_iff_ne.2 (fun h => hxy ?_)).symm
            rw [h, hy] at hx
            exact (Option.some.inj hx).symm
          have hB' := hB.drew
          clear heq hx hy hxy h1 h2
          go_wp2_with fail
          go_region_held_law (fun W => W.cell? (ad1.add k) = some (.string ⟨x.toArray⟩) ∧ W.cell? (ad2.add k) = some (.string ⟨y.toArray⟩)) (exact ⟨d1, d2⟩) (fail)
          go_wp2_with fail
          go_ret
          exact ⟨by rw [← hbf.out]; rfl, hB'⟩
      · obtain rfl : k = n := by omega
        have hbt : Hid (true = B) := by
          show _ = _
          rw [← HB.out]
          have e1 : a.take k = a := List.take_of_length_le (by rw [HN.out]; exact Nat.le_refl _)
          have e2 : b.take k = b := List.take_of_length_le (by rw [← HL.out]; exact Nat.le_refl _)
          rw [e1, e2] at heq
          rw [heq]
          exact (beq_self_eq_true b).symm
        clear heq
        go_wp2_with fail
        go_ret
        exact ⟨by rw [← hbt.out]; rfl, hB⟩
  · have hl2 : ((a.length : Int) != (b.length : Int)) = true := by rw [bne_iff_ne]; omega
    have hne : (a == b) = false := beq_eq_false_iff_ne.2 (fun h => hl (by rw [h]))
    rw [hne]
    clear hl hne
    go_enter Try.func34, Try.ntmps34
    go_wp2_with fail
    go_ret
    exact ⟨rfl, Below.refl _ _⟩
end Go.Proofs.Ytgbnaifjdfoahaa.Frame
