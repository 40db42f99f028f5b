/- The first frame of a text, the program's Take and the document's, walked. Conditions: texts of at most 1,000,000,000 bytes. -/
import Derived.Deep.LoopGhost
import Derived.Test.YteiaiilfekojfaaGreatQNetOrderFrame
import Derived.Test.YteiaiilfekojfaaGreatQNetOrderKeepR
import Derived.Test.YteiaiilfekojfaaGreatQNetOrderWireDocNum
namespace Go.Proofs.YteiaiilfekojfaaGreat.Frame
open Go.RowKit Wire

theorem below_cases (s : List UInt8) :
    (∃ r', Rd.below ⟨0, s⟩ 65537 = (0, r') ∧ r'.bad.err ≠ 0 ∧ takeF s = ([], 0, r'.bad.err)) ∨
    (∃ x rest, Rd.below ⟨0, s⟩ 65537 = (x, ⟨0, rest⟩) ∧ 0 < x ∧ x ≤ 65536 ∧ s = numB x ++ rest ∧
      takeF s = if rest.length < 8 + x then ([], 0, 3) else if leV (rest.take 8) ≠ crcSum ((rest.drop 8).take x) then ([], 0, 5) else ((rest.drop 8).take x, s.length - rest.length + (8 + x), 0)) := by
  obtain ⟨x, r, hr⟩ : ∃ x r, Rd.num ⟨0, s⟩ = (x, r) := ⟨_, _, rfl⟩
  obtain ⟨e, rest⟩ := r
  have hb : Rd.below ⟨0, s⟩ 65537 = if e ≠ 0 then (0, ⟨e, rest⟩) else if 65537 ≤ x then (0, Rd.fail ⟨e, rest⟩ 4) else (x, ⟨e, rest⟩) := by
    unfold Rd.below; rw [hr]
  have ht : takeF s = if e ≠ 0 then ([], 0, e) else if x = 0 ∨ 65536 < x then ([], 0, 4) else if rest.length < 8 + x then ([], 0, 3) else if leV (rest.take 8) ≠ crcSum ((rest.drop 8).take x) then ([], 0, 5) else ((rest.drop 8).take x, s.length - rest.length + (8 + x), 0) := by
    unfold takeF; rw [hr]
  by_cases he : e ≠ 0
  · rw [if_pos he] at hb ht
    have hbad : (Rd.bad ⟨e, rest⟩) = ⟨e, rest⟩ := by unfold Rd.bad Rd.fail; rw [if_neg he]
    exact .inl ⟨_, hb, by rw [hbad]; exact he, by rw [hbad]; exact ht⟩
  · rw [if_neg he] at hb ht
    obtain rfl : e = 0 := by omega
    by_cases hx : x = 0 ∨ 65536 < x
    · rw [if_pos hx] at ht
      rcases hx with hx | hx
      · subst hx
        rw [if_neg (by omega)] at hb
        exact .inl ⟨_, hb, by unfold Rd.bad; rw [fail0]; simp, by unfold Rd.bad; rw [fail0]; exact ht⟩
      · rw [if_pos (by omega), fail0] at hb
        have hbad : (Rd.bad ⟨4, rest⟩) = ⟨4, rest⟩ := rfl
        exact .inl ⟨_, hb, by rw [hbad]; simp, by rw [hbad]; exact ht⟩
    · rw [if_neg hx] at ht
      rw [if_neg (by omega)] at hb
      exact .inr ⟨x, rest, hb, by omega, by omega, num_back s x rest hr, ht⟩

theorem or_byte (y k b : Nat) (hy : y < 256 ^ k) (hb : b < 256) (hk : k < 8) : bits .or .u64 (y : Int) (IntKind.u64.wrap ((b : Int) * 2 ^ (8 * k))) = ((y + b * 256 ^ k : Nat) : Int) := by
  have hp : (256 : Nat) ^ k = 2 ^ (8 * k) := by rw [show (256 : Nat) = 2 ^ 8 from rfl, ← Nat.pow_mul]
  have h8 : 2 ^ (8 * k) * 256 ≤ 2 ^ 64 := by
    rw [show 2 ^ (8 * k) * 256 = 2 ^ (8 * k + 8) from by rw [Nat.pow_add]]
    exact Nat.pow_le_pow_right (by omega) (by omega)
  have e0 : (2 : Int) ^ (8 * k) = ((2 ^ (8 * k) : Nat) : Int) := by simp
  rw [hp] at hy ⊢
  rw [e0]
  have hs := Nat.shiftLeft_add_eq_or_of_lt (i := 8 * k) (b := y) hy b
  rw [Nat.shiftLeft_eq] at hs
  generalize 2 ^ (8 * k) = q at *
  have hbq : b * q < 18446744073709551616 := by
    have : b * q ≤ 255 * q := Nat.mul_le_mul_right _ (by omega)
    omega
  have e1 : ((b : Int) * (q : Int)) = ((b * q : Nat) : Int) := by simp
  rw [e1, IntKind.wrap_u64, show ((b * q : Nat) : Int) % 18446744073709551616 = ((b * q : Nat) : Int) by omega, u64_or_nat y (b * q) (by omega) hbq, Nat.or_comm, ← hs, Nat.add_comm]
theorem mid_str (l : List UInt8) (a x : Nat) : (ByteArray.mk l.toArray).extract a (a + x) = ByteArray.mk ((l.drop a).take x).toArray := by
  rw [ByteArray.extract_mk]
  simp
def RetT (w : World) (p : List UInt8 × Nat × Nat) (e : Ending) (w' : World) : Prop :=
  e = .returned (.tuple #[.string ⟨p.1.toArray⟩, .int .i64 (p.2.1 : Int), .int .i64 (p.2.2 : Int)]) ∧ Below w.heap.size w w'
def TakeAt (w1 : World) (g : Nat) (rest : List UInt8) (gk : Nat) (v i : Value) (wr : World) : Prop :=
  ∃ (k y : Nat), k + gk = 8 ∧ i = .int .i64 (k : Int) ∧ v = .int .u64 (y : Int) ∧ Hid (y = leV (rest.take k)) ∧ RdGo w1 g ⟨0, rest.drop k⟩ wr
theorem bel_eq {g : Nat} {r : Rd} {n : Nat} {p : Nat × Rd} (e : r.below n = p) (hl : r.rest.length < 4611686018427387904) (w : World) (h : RdAt w g r) :
    Calls Tryz.prog 92 #[.pointer (some ⟨g, 0, none⟩), .int .u64 (n : Int)] w fun e w' => NumRet w g p e w' := e ▸ Below_any g r n hl w h
set_option linter.unusedSimpArgs false in
set_option maxRecDepth 100000 in
set_option maxHeartbeats 4000000 in
theorem ftake_any (s : List UInt8) (hs : s.length ≤ 1000000000) (w : World) :
    Calls Tryz.prog 56 #[.string ⟨s.toArray⟩] w fun e w' => RetT w (takeF s) e w' := by
  have hsz := size_str s
  have h1 := alloc_rd w ⟨0, s⟩
  have b1 := below_one w (.cells (rdC ⟨0, s⟩) 157)
  rcases below_cases s with ⟨r', hb, he, ht⟩ | ⟨x, rest, hb, hx0, hx1, hns, ht⟩
  · rw [ht]
    have HB := Lib.hid (bel_eq hb (by simp only; omega) _ h1)
    clear hb ht h1
    have hne : (((r'.bad).err : Int) != 0) = true := by rw [bne_iff_ne]; omega
    go_enter Tryz.func56, Tryz.ntmps56
    go_wp2_with fail
    refine (of_any s _).mono ?_; rintro e w' ⟨rfl, rfl⟩
    go_wp2_with fail
    refine HB.out.mono ?_; rintro e w2 ⟨rfl, hgo2⟩
    go_wp2_with fail
    refine (bad_any _ r' w2 hgo2.1).mono ?_; rintro e w3 ⟨⟨v, rfl⟩, hgo3⟩
    go_wp2_with fail
    refine (err_any _ _ w3 hgo3.1).mono ?_; rintro e w4 ⟨rfl, rfl⟩
    go_wp2_with fail
    go_ret3
    exact ⟨rfl, b1.trans (only_below (hgo2.trans hgo3).2 (Nat.le_refl _) (by simp))⟩
  · rw [ht]
    have HB := Lib.hid (bel_eq hb (by simp only; omega) _ h1)
    have HNS := Lib.hid hns
    have hsl : s.length = (numB x).length + rest.length := by rw [hns, List.length_append]
    clear hb ht h1 hns
    have hx2 : ((x : Int) == 0) = false := beq_eq_false_iff_ne.2 (by omega)
    by_cases hl : rest.length < 8 + x
    · rw [if_pos hl]
      have hl2 : (rest.length : Int) < 8 + (x : Int) := by omega
      have hleft : Rd.left ⟨0, rest⟩ = rest.length := rfl
      have HE : Hid (∀ W, RdAt W w.heap.size ⟨0, rest⟩ → Calls Tryz.prog 94 #[.pointer (some ⟨w.heap.size, 0, none⟩)] W fun e w' => e = .returned (.int .i64 0) ∧ W = w') := fun W h => err_any _ ⟨0, rest⟩ W h
      go_enter Tryz.func56, Tryz.ntmps56
      go_wp2_with fail
      refine (of_any s _).mono ?_; rintro e w' ⟨rfl, rfl⟩
      go_wp2_with fail
      refine HB.out.mono ?_; rintro e w2 ⟨rfl, hgo2⟩
      go_wp2_with fail
      refine (HE.out w2 hgo2.1).mono ?_; rintro e w4 ⟨rfl, rfl⟩
      go_wp2_with fail
      refine (left_any _ _ w2 hgo2.1).mono ?_; rintro e w4 ⟨rfl, rfl⟩
      go_wp2_with fail
      go_ret3
      exact ⟨rfl, b1.trans (only_below hgo2.2 (Nat.le_refl _) (by simp))⟩
    · rw [if_neg hl]
      generalize hp : (if leV (rest.take 8) ≠ crcSum ((rest.drop 8).take x) then ([], 0, 5) else ((rest.drop 8).take x, s.length - rest.length + (8 + x), 0)) = p
      have HP := Lib.hid hp
      clear hp
      have hl2 : ¬ (rest.length : Int) < 8 + (x : Int) := by omega
      have hleft : Rd.left ⟨0, rest⟩ = rest.length := rfl
      have HE : Hid (∀ W, RdAt W w.heap.size ⟨0, rest⟩ → Calls Tryz.prog 94 #[.pointer (some ⟨w.heap.size, 0, none⟩)] W fun e w' => e = .returned (.int .i64 0) ∧ W = w') := fun W h => err_any _ ⟨0, rest⟩ W h
      go_enter Tryz.func56, Tryz.ntmps56
      go_wp2_with fail
      refine (of_any s _).mono ?_; rintro e w' ⟨rfl, rfl⟩
      go_wp2_with fail
      refine HB.out.mono ?_; rintro e w2 ⟨rfl, hgo2⟩
      go_wp2_with fail
      refine (HE.out w2 hgo2.1).mono ?_; rintro e w4 ⟨rfl, rfl⟩
      go_wp2_with fail
      refine (left_any _ _ w2 hgo2.1).mono ?_; rintro e w4 ⟨rfl, rfl⟩
      go_wp2_with fail
      go_loopg [8, 31] 8 (fun gk v i wr => TakeAt w2 w.heap.size rest gk v i wr)
      case atStart => exact ⟨0, 0, by omega, rfl, rfl, by show _ = _; simp [leV], by rw [List.drop_zero]; exact hgo2.1.go⟩
      case round =>
        obtain ⟨k, y, hk, rfl, rfl, hy, hgo⟩ := hrel
        by_cases h8 : k < 8
        · obtain ⟨j, rfl⟩ : ∃ j, gk = j + 1 := ⟨gk - 1, by omega⟩
          have hk8 : (k : Int) < 8 := by omega
          obtain ⟨b, hbk⟩ : ∃ b, rest[k]? = some b := ⟨_, List.getElem?_eq_getElem (by omega)⟩
          have hdk : rest.drop k = b :: rest.drop (k + 1) := by
            have hkl : k < rest.length := by omega
            rw [List.drop_eq_getElem_cons hkl]
            rw [List.getElem?_eq_getElem hkl] at hbk
            rw [Option.some.inj hbk]
          have HY : Hid (∀ W, RdAt W w.heap.size ⟨0, rest.drop k⟩ → Calls Tryz.prog 58 #[.pointer (some ⟨w.heap.size, 0, none⟩)] W fun e w' => ByteRet W w.heap.size (b.toNat, ⟨0, rest.drop (k + 1)⟩) e w') := fun W h => by
            have hh := byte_any w.heap.size ⟨0, rest.drop k⟩ (by simp only [List.length_drop]; omega) W h
            rw [hdk, byte_cons] at hh
            exact hh
          have hbl := b.toNat_lt
          have hlv := leV_take rest k b hbk
          have hlt := leV_lt (rest.take k)
          rw [show (rest.take k).length = k from by rw [List.length_take]; omega] at hlt
          clear hdk hbk hsl
          go_wp2_with fail
          refine (HY.out wr hgo.1).mono ?_; rintro e w5 ⟨rfl, hgo5⟩
          go_wp2_with fail
          go_roundg j
          case measure => omega
          case rel =>
            refine ⟨k + 1, leV (rest.take (k + 1)), by omega, by go_num, ?_, rfl, hgo.trans hgo5⟩
            rw [hlv, hy.out, or_byte _ k b.toNat hlt (by omega) h8]
        · obtain rfl : k = 8 := by omega
          obtain ⟨m, hm⟩ : ∃ m, rest.length = m + 8 := ⟨rest.length - 8, by omega⟩
          have hl8 : Rd.left ⟨0, rest.drop 8⟩ = m := by show (rest.drop 8).length = m; rw [List.length_drop]; omega
          obtain ⟨a, ha⟩ : ∃ a, s.length = a + m := ⟨s.length - m, by omega⟩
          have h9 : a = (numB x).length + 8 := by omega
          have hd : s.drop a = rest.drop 8 := by
            rw [h9, HNS.out, ← List.drop_drop, List.drop_left]
          have ha2 : (s.length : Int) - (m : Int) = (a : Int) := by omega
          have hms := mid_str s a x
          rw [hd] at hms
          have hSL : ∀ W, (Instr.slice 9 (.string ⟨s.toArray⟩) (some (.int .i64 (a : Int))) (some (.int .i64 ((a : Int) + (x : Int)))) none).run Tryz.prog W = .ok (.string ⟨((rest.drop 8).take x).toArray⟩) W := fun W => by
            have h := run_slice_string (P := Tryz.prog) W 9 ⟨s.toArray⟩ .i64 .i64 (a : Int) ((a : Int) + (x : Int)) Tryz.underlying9 (by omega) (by omega) (by rw [hsz]; omega)
            rw [show ((a : Int) + (x : Int)).toNat = a + x by omega, Int.toNat_natCast, hms] at h
            exact h
          clear hms
          clear hsl hd
          have hcl : ((rest.drop 8).take x).length < 4611686018427387904 := by rw [List.length_take]; omega
          have HS := Lib.hid (fun W => sum_any ((rest.drop 8).take x) hcl W)
          have HL : Hid (∀ W, RdAt W w.heap.size ⟨0, rest.drop 8⟩ → Calls Tryz.prog 95 #[.pointer (some ⟨w.heap.size, 0, none⟩)] W fun e w' => e = .returned (.int .i64 (m : Int)) ∧ W = w') := fun W h => by
            have := left_any _ _ W h
            rw [hl8] at this
            exact this
          have hxm : (x : Int) ≤ (m : Int) := by omega
          have HM : Hid (s.length - rest.length + (8 + x) = a + x) := by show _ = _; omega
          clear h9
          clear hm hl8
          go_wp2_with fail
          refine (HL.out wr hgo.1).mono ?_; rintro e w4 ⟨rfl, rfl⟩
          generalize crcSum ((rest.drop 8).take x) = z at *
          by_cases hq : y = z
          · have hq2 : ((z : Int) != (y : Int)) = false := by rw [hq]; simp
            have HQ := Lib.hid hq
            clear hq
            go_wp2_with fail
            refine (HS.out wr).mono ?_; rintro e w4 ⟨rfl, rfl⟩
            go_wp2_with fail
            go_ret3
            rw [← HP.out, if_neg (by rw [← hy.out]; exact fun h => h HQ.out)]
            exact ⟨by simp only [HM.out]; rfl, b1.trans (only_below (hgo2.trans hgo).2 (Nat.le_refl _) (by simp))⟩
          · have hq2 : ((z : Int) != (y : Int)) = true := by rw [bne_iff_ne]; omega
            have HQ := Lib.hid hq
            clear hq
            go_wp2_with fail
            refine (HS.out wr).mono ?_; rintro e w4 ⟨rfl, rfl⟩
            go_wp2_with fail
            go_ret3
            rw [← HP.out, if_pos (by rw [← hy.out]; exact HQ.out)]
            exact ⟨rfl, b1.trans (only_below (hgo2.trans hgo).2 (Nat.le_refl _) (by simp))⟩

end Go.Proofs.YteiaiilfekojfaaGreat.Frame
