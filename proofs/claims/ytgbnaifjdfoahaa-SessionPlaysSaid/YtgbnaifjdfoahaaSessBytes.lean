/- What was kept as bytes, walked: the document's Bytes is the table's. Conditions: the list can be read; texts are of at most 1,000 bytes. -/
import Derived.Test.YtgbnaifjdfoahaaSessPut
namespace Go.Proofs.Ytgbnaifjdfoahaa.Sess
open Go.RowKit Wire

def BytesTab (t : Nat → Ent) (w : World) (gk : Nat) (b i : Value) (wr : World) : Prop :=
  ∃ (k : Nat) (B : List UInt8), k + gk = 4 ∧ i = .int .i64 (k : Int) ∧ b = .string ⟨B.toArray⟩ ∧ Hid (B = tabTo t k) ∧ B.length ≤ 1019 * k ∧ Below w.heap.size w wr
set_option linter.unusedSimpArgs false in
set_option maxRecDepth 100000 in
set_option maxHeartbeats 8000000 in
theorem refBytes12_any (l : List Kp) (hl : l.length ≤ 9223372036854775807) (ht : ∀ c, c < 4 → (tabOf l c).Ok) (A : Option Addr) (cap : Nat) (w : World) (h : Rows w A 4 kpC l) :
    Calls Try.prog 23 #[.slice A l.length cap] w fun e w' => RetStr w (tabB (tabOf l)) e w' := by
  have hL := fun c W hW => refLast_any l hl c A cap W hW
  have HL := Lib.hid hL
  clear hL
  go_enter Try.func23, Try.ntmps23
  go_wp2_with fail
  go_loopg [3, 4] 4 (fun gk b i wr => BytesTab (tabOf l) w gk b i wr)
  case atStart => exact ⟨0, [], by omega, rfl, rfl, by show _ = _; simp [tabTo], by simp, Below.refl _ _⟩
  case round =>
    obtain ⟨k, B, hk, rfl, rfl, hB, hBl, hbw⟩ := hrel
    by_cases h4 : k < 4
    · have hto := tabTo_succ (tabOf l) k
      obtain ⟨o1, o2, o3⟩ := ht k h4
      have hel := entB_len (tabOf l k) (ht k h4)
      have h1 := HL.out k _ (h.below hbw)
      have e : tabOf l k = ⟨(lastL l k).seq, (lastL l k).code, (lastL l k).text⟩ := rfl
      rw [e] at hto o1 o2 o3 hel
      unfold kpA at h1
      generalize lastL l k = x at *
      obtain ⟨xc, xs, xk, xt⟩ := x
      obtain ⟨s, rfl⟩ : ∃ s : List UInt8, xt = ⟨s.toArray⟩ := ⟨xt.data.toList, by simp⟩
      have hss := size_str s
      simp only at h1 o1 o2 o3
      unfold entB at hto hel
      simp only at hto hel
      have HTO := Lib.hid hto
      have H1 := Lib.hid h1
      have hk4 : (k : Int) < 4 := by omega
      have x1 : (0 : Int) ≤ (xs : Int) := by omega
      have x2 : (xs : Int) < 4294967296 := by omega
      have hn := refNum_any xs (by omega)
      have HN := Lib.hid hn
      have hnl := (numB_length xs (by omega)).1
      have ad := add_str B (numB xs)
      have lt1 : ¬ (9223372036854775807 < B.length + (numB xs).length) := by omega
      have lt2 : (B ++ numB xs).length ≤ 1019 * k + 9 := by rw [List.length_append]; omega
      clear hto hn h1 e o1
      by_cases h0 : xs = 0
      · rw [if_pos h0] at hel
        have hb : ¬ (0 : Int) < (xs : Int) := by omega
        have H0 := Lib.hid h0
        have hB' : Hid (B ++ numB xs = tabTo (tabOf l) (k + 1)) := by show _ = _; rw [HTO.out, hB.out, if_pos H0.out]; simp
        clear h0
        generalize B ++ numB xs = B1 at *
        have HQ := Lib.hid (And.intro hBl lt2)
        clear hBl lt2 hel hnl
        go_wp2_with fail
        refine H1.out.mono ?_; rintro e w1 ⟨rfl, B1'⟩
        have kg := ((Kg.refl wr).below B1').new 33 #[.int .u8 (xc : Int), .int .u32 (xs : Int), .int .u8 (xk : Int), .string ⟨s.toArray⟩]
        clear B1'
        go_wp2_with fail
        refine (HN.out _).mono ?_; rintro e w2 ⟨rfl, B2⟩
        clear x1 x2
        have kg := kg.below B2
        obtain ⟨d0, d1, d2, d3⟩ := kg.i1.c4
        simp only at d0 d1 d2 d3
        have hbw2 := hbw.trans (kg.bw.mono hbw.size)
        clear B2
        go_wp2_with fail
        go_roundg (4 - (k + 1))
        case measure => omega
        case rel => exact ⟨k + 1, B1, by omega, by go_num, rfl, hB', by have := HQ.out.2; omega, hbw2⟩
      · rw [if_neg h0] at hel
        have hb : (0 : Int) < (xs : Int) := by omega
        have H0 := Lib.hid h0
        have hB' : Hid ((B ++ numB xs ++ [UInt8.ofNat xk]) ++ strB s = tabTo (tabOf l) (k + 1)) := by show _ = _; rw [HTO.out, hB.out, if_neg H0.out]; simp
        have hl' : ((B ++ numB xs ++ [UInt8.ofNat xk]) ++ strB s).length ≤ 1019 * (k + 1) := by
          simp only [List.length_append, List.length_cons, List.length_nil] at hel ⊢; omega
        clear h0
        generalize B ++ numB xs = B1 at *
        have ad2 := add_str B1 [UInt8.ofNat xk]
        have ad3 := add_str (B1 ++ [UInt8.ofNat xk]) (strB s)
        have lt3 : ¬ (9223372036854775807 < B1.length + 1) := by omega
        have lt4 : ¬ (9223372036854775807 < B1.length + 1 + (strB s).length) := by
          simp only [List.length_append, List.length_cons, List.length_nil] at hl'; omega
        have hstr := refStr_any s (by omega)
        have HSt := Lib.hid hstr
        generalize (B1 ++ [UInt8.ofNat xk]) ++ strB s = B3 at *
        have HQ := Lib.hid hl'
        clear hstr hBl lt2 hel hnl hl' o3
        go_wp2_with fail
        refine H1.out.mono ?_; rintro e w1 ⟨rfl, B1'⟩
        have kg := ((Kg.refl wr).below B1').new 33 #[.int .u8 (xc : Int), .int .u32 (xs : Int), .int .u8 (xk : Int), .string ⟨s.toArray⟩]
        clear B1'
        go_wp2_with fail
        refine (HN.out _).mono ?_; rintro e w2 ⟨rfl, B2⟩
        clear x1 x2
        have kg := kg.below B2
        obtain ⟨d0, d1, d2, d3⟩ := kg.i1.c4
        simp only at d0 d1 d2 d3
        clear B2
        go_wp2_with fail
        go_region_held_law (fun W : World => W.cell? ⟨w1.heap.size, 2, none⟩ = some (.int .u8 (xk : Int)) ∧ W.cell? ⟨w1.heap.size, 3, none⟩ = some (.string ⟨s.toArray⟩))
          (first | exact ⟨kg.drew.i1.cell 2, kg.drew.i1.cell 3⟩ | exact ⟨(kg.alloc _).drew.i1.cell 2, (kg.alloc _).drew.i1.cell 3⟩ | exact ⟨kg3.i1.cell 2, kg3.i1.cell 3⟩ | exact ⟨(kg3.alloc _).i1.cell 2, (kg3.alloc _).i1.cell 3⟩)
          (first
            | (go_simp; go_at_call 56; refine (HSt.out _).mono ?_; rintro e w3 ⟨rfl, B3'⟩; have kg3 := kg.drew.below B3')
            | (go_simp; go_at_call 56; refine (HSt.out _).mono ?_; rintro e w3 ⟨rfl, B3'⟩; have kg3 := (kg.alloc _).drew.below B3')
            | (refine upon_conv (l := [UInt8.ofNat xk]) Try.underlying40 Try.underlying5 Try.underlying9 (one_reads _ o2) ?_)
            | (refine upon_conv (l := [UInt8.ofNat xk]) Try.underlying40 Try.underlying5 Try.underlying9 (one_reads _ o2).drew ?_)
            | (refine upon_conv (l := [UInt8.ofNat xk]) Try.underlying40 Try.underlying5 Try.underlying9 ((one_reads _ o2).drew.below B3') ?_))
        all_goals
          have hbw2 : Below w.heap.size w _ := hbw.trans (kg3.bw.mono hbw.size)
          have hbw3 : Below w.heap.size w (w3.alloc (.cells #[.int .u8 (xk : Int)] 5)) := hbw.trans ((kg3.alloc _).bw.mono hbw.size)
          go_wp2_with fail
          go_roundg (4 - (k + 1))
          case measure => omega
          case rel => first | exact ⟨k + 1, B3, by omega, by go_num, rfl, hB', HQ.out, hbw2⟩ | exact ⟨k + 1, B3, by omega, by go_num, rfl, hB', HQ.out, hbw3⟩
    · obtain rfl : k = 4 := by omega
      go_wp2_with fail
      go_ret
      have e : tabB (tabOf l) = B := hB.out.symm
      rw [e]
      exact ⟨rfl, hbw⟩
end Go.Proofs.Ytgbnaifjdfoahaa.Sess
