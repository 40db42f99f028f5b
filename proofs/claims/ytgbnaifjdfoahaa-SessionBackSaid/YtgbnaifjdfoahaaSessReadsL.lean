/- The law SessionReads walked. Conditions: none. -/
import Derived.Test.YtgbnaifjdfoahaaSessTake
import Derived.Test.YtgbnaifjdfoahaaSessTakeRef
import Derived.Test.YtgbnaifjdfoahaaSessAlike
import Derived.Test.YtgbnaifjdfoahaaSessW
import Derived.Deep.RegionHeld3
namespace Go.Proofs.Ytgbnaifjdfoahaa.Sess
open Go.RowKit Wire

/-! ### Take of nil -/
def NilAt (w : World) (gk : Nat) (i : Value) (wr : World) : Prop :=
  ∃ k : Nat, k + gk = 4 ∧ i = .int .i64 (k : Int) ∧ Kg [(w.heap.size + 1, 31, tabC (fun _ => zE)), (w.heap.size, 31, tabC (fun _ => zE))] w wr
set_option linter.unusedSimpArgs false in
set_option maxRecDepth 100000 in
set_option maxHeartbeats 8000000 in
theorem sessTake_nil (w : World) :
    Calls Try.prog 25 #[.pointer none] w fun e w' => e = .returned (tabV (fun _ => zE)) ∧ Below w.heap.size w w' := by
  have k0 := kgn2 w 31 31 (tabC (fun _ => zE)) (tabC (fun _ => zE))
  go_enter Try.func25, Try.ntmps25
  go_wp2_with fail
  go_loopg [6] 4 (fun gk i wr => NilAt w gk i wr)
  case atStart => exact ⟨0, by omega, rfl, k0⟩
  case round =>
    clear k0
    obtain ⟨k, hk, rfl, kg⟩ := hrel
    by_cases h4 : k < 4
    · have hk4 : (k : Int) < 4 := by omega
      have hB := fun W => Below_nil 4294967296 W
      have HB := Lib.hid hB
      clear hB
      go_wp2_with fail
      refine (HB.out _).mono ?_; rintro e w1 ⟨rfl, rfl⟩
      have sz := kg.i1.lt
      simp only at sz
      have kgn := (kg.new 29 #[.int .u32 0, .int .u8 0, .string ⟨#[]⟩]).swap
      clear kg
      go_upto_region 6 with fail
      generalize wr.alloc (.cells #[.int .u32 0, .int .u8 0, .string ⟨#[]⟩] 29) = wa at *
      obtain ⟨c0, c1, c2⟩ := kgn.i2.c3
      simp only at c0 c1 c2
      have hne : ∀ p ∈ [(wr.heap.size, 29, #[Value.int .u32 0, .int .u8 0, .string ⟨#[]⟩]), (w.heap.size, 31, tabC (fun _ => zE))], p.1 ≠ w.heap.size + 1 := by simp; omega
      have hw : w.heap.size ≤ w.heap.size + 1 := by omega
      have KH := Lib.hid kgn
      unfold tabC at kgn
      obtain ⟨a0, a1, a2, a3, a4, a5, a6, a7, a8, a9, a10, a11⟩ := kgn.i1.c12
      obtain ⟨f0, f1, f2, f3, f4, f5, f6, f7, f8, f9, f10, f11⟩ := kgn.i1.f12
      simp only at a0 a1 a2 a3 a4 a5 a6 a7 a8 a9 a10 a11 f0 f1 f2 f3 f4 f5 f6 f7 f8 f9 f10 f11
      clear kgn
      rcases (show k = 0 ∨ k = 1 ∨ k = 2 ∨ k = 3 by omega) with rfl | rfl | rfl | rfl
      · have K2 : Kg [(w.heap.size + 1, 31, tabC (fun _ => zE)), (wr.heap.size, 29, #[Value.int .u32 0, .int .u8 0, .string ⟨#[]⟩]), (w.heap.size, 31, tabC (fun _ => zE))] w _ := ((KH.out.set_ (i := 0) hne hw (.int .u32 0)).set_ (i := 1) hne hw (.int .u8 0)).set_ (i := 2) hne hw (.string ⟨#[]⟩)
        go_wp2_with fail
        go_roundg (4 - (0 + 1))
        case measure => omega
        case rel => exact ⟨0 + 1, by omega, by go_num, K2.sub (by simp)⟩
      · have K2 : Kg [(w.heap.size + 1, 31, tabC (fun _ => zE)), (wr.heap.size, 29, #[Value.int .u32 0, .int .u8 0, .string ⟨#[]⟩]), (w.heap.size, 31, tabC (fun _ => zE))] w _ := ((KH.out.set_ (i := 3) hne hw (.int .u32 0)).set_ (i := 4) hne hw (.int .u8 0)).set_ (i := 5) hne hw (.string ⟨#[]⟩)
        go_wp2_with fail
        go_roundg (4 - (1 + 1))
        case measure => omega
        case rel => exact ⟨1 + 1, by omega, by go_num, K2.sub (by simp)⟩
      · have K2 : Kg [(w.heap.size + 1, 31, tabC (fun _ => zE)), (wr.heap.size, 29, #[Value.int .u32 0, .int .u8 0, .string ⟨#[]⟩]), (w.heap.size, 31, tabC (fun _ => zE))] w _ := ((KH.out.set_ (i := 6) hne hw (.int .u32 0)).set_ (i := 7) hne hw (.int .u8 0)).set_ (i := 8) hne hw (.string ⟨#[]⟩)
        go_wp2_with fail
        go_roundg (4 - (2 + 1))
        case measure => omega
        case rel => exact ⟨2 + 1, by omega, by go_num, K2.sub (by simp)⟩
      · have K2 : Kg [(w.heap.size + 1, 31, tabC (fun _ => zE)), (wr.heap.size, 29, #[Value.int .u32 0, .int .u8 0, .string ⟨#[]⟩]), (w.heap.size, 31, tabC (fun _ => zE))] w _ := ((KH.out.set_ (i := 9) hne hw (.int .u32 0)).set_ (i := 10) hne hw (.int .u8 0)).set_ (i := 11) hne hw (.string ⟨#[]⟩)
        go_wp2_with fail
        go_roundg (4 - (3 + 1))
        case measure => omega
        case rel => exact ⟨3 + 1, by omega, by go_num, K2.sub (by simp)⟩
    · obtain rfl : k = 4 := by omega
      unfold tabC at kg
      go_wp2_with fail
      refine (err_nil _).mono ?_; rintro e w1 ⟨rfl, rfl⟩
      have kr := kg.swap
      obtain ⟨c0, c1, c2, c3, c4, c5, c6, c7, c8, c9, c10, c11⟩ := kr.i1.c12
      obtain ⟨f0, f1, f2, f3, f4, f5, f6, f7, f8, f9, f10, f11⟩ := kr.i1.f12
      simp only at c0 c1 c2 c3 c4 c5 c6 c7 c8 c9 c10 c11 f0 f1 f2 f3 f4 f5 f6 f7 f8 f9 f10 f11
      have K2 := kr.set12 (v0 := .int .u32 0) (v1 := .int .u8 0) (v2 := .string ⟨#[]⟩) (v3 := .int .u32 0) (v4 := .int .u8 0) (v5 := .string ⟨#[]⟩) (v6 := .int .u32 0) (v7 := .int .u8 0) (v8 := .string ⟨#[]⟩) (v9 := .int .u32 0) (v10 := .int .u8 0) (v11 := .string ⟨#[]⟩) (by simp) (Nat.le_refl _)
      have KH := Lib.hid K2
      clear kr K2 kg
      go_wp2_with fail
      obtain ⟨y0, y1, y2, y3, y4, y5, y6, y7, y8, y9, y10, y11⟩ := KH.out.i1.c12
      refine bodyPost_ret (v := tabV (fun _ => zE)) (by simp [results, Try.results25, go_sem, tabV, tabC, zE, noText, y0, y1, y2, y3, y4, y5, y6, y7, y8, y9, y10, y11]) rfl ?_
      exact ⟨rfl, KH.out.bw⟩
theorem sessTake_nil' (w : World) :
    Calls Try.prog 25 #[.pointer none] w fun e w' => e = .returned (.agg #[.int .u32 0, .int .u8 0, .string ⟨#[]⟩, .int .u32 0, .int .u8 0, .string ⟨#[]⟩, .int .u32 0, .int .u8 0, .string ⟨#[]⟩, .int .u32 0, .int .u8 0, .string ⟨#[]⟩]) ∧ Below w.heap.size w w' := sessTake_nil w
theorem eq_zz (w : World) : (Op.equalIn 10000 31 (.agg #[.int .u32 0, .int .u8 0, .string ⟨#[]⟩, .int .u32 0, .int .u8 0, .string ⟨#[]⟩, .int .u32 0, .int .u8 0, .string ⟨#[]⟩, .int .u32 0, .int .u8 0, .string ⟨#[]⟩]) (.agg #[.int .u32 0, .int .u8 0, .string ⟨#[]⟩, .int .u32 0, .int .u8 0, .string ⟨#[]⟩, .int .u32 0, .int .u8 0, .string ⟨#[]⟩, .int .u32 0, .int .u8 0, .string ⟨#[]⟩])).run Try.prog w = .ok true w := by kernel_rfl

/-! ### The law -/
set_option linter.unusedSimpArgs false in
set_option maxRecDepth 100000 in
set_option maxHeartbeats 8000000 in
theorem sreads_any (s : List UInt8) (hl : s.length ≤ 9223372036854775807) (w : World) :
    Calls Try.prog 4 #[.string ⟨s.toArray⟩] w fun e w' => e = .returned (.bool true) ∧ Below w.heap.size w w' := by
  have hsz := size_str s
  by_cases hl2 : 2000 < s.length
  · go_enter Try.func4, Try.ntmps4
    go_wp2_with fail
    refine (wakes12_any _).mono ?_; rintro e w1 ⟨rfl, B1⟩
    go_wp2
    go_ret
    exact ⟨rfl, B1⟩
  · have hT := fun W g h => sessTake_any g ⟨0, s⟩ (by show s.length ≤ _; omega) W h
    have hR := fun W => refTake_any ⟨0, s⟩ (by show s.length ≤ _; omega) W
    have hd : Rd.doc ⟨0, s⟩ = ⟨s, 0⟩ := rfl
    rw [hd] at hR
    rw [← take_tab] at hT
    have hll : (takeL ⟨0, s⟩).length ≤ 4 := by
      unfold takeL
      split
      · exact listK_len _ _
      · simp
    unfold RTakeRet at hR
    generalize takeL ⟨0, s⟩ = l at *
    generalize rdK ⟨0, s⟩ 4 = q at *
    obtain ⟨ds, eq1, eq2⟩ : ∃ ds, q.doc = ⟨ds, q.err⟩ ∧ ds.length = q.left := ⟨q.doc.s, by rw [← doc_err q], doc_left q⟩
    rw [eq1] at hR
    have hL : ∀ (W : World) (g : Nat), RdAt W g q → Calls Try.prog 28 #[.pointer (some ⟨g, 0, none⟩)] W fun e w' => e = .returned (.int .i64 (ds.length : Int)) ∧ W = w' := fun W g h => by
      rw [eq2]
      exact left_any g q W h
    have hds := size_str ds
    have hal := fun W A c (h : Rows W A 4 kpC l) => alike_any l (by omega) A c W h
    have HT := Lib.hid hT
    have HR := Lib.hid hR
    have HL := Lib.hid hL
    have HA := Lib.hid hal
    have HN := Lib.hid sessTake_nil'
    have hzz := eq_zz
    clear hT hR hL hal hd eq1 eq2 hll
    unfold drV drC at HR
    unfold tabV at HT HA
    unfold tabC at HT HA
    simp only at HT HR HA
    go_enter Try.func4, Try.ntmps4
    go_wp2_with fail
    refine (of_any s _).mono ?_; rintro e w0 ⟨rfl, rfl⟩
    have kg0 := (Kg.refl w).new 98 (rdC ⟨0, s⟩)
    go_wp2_with fail
    refine (HT.out _ _ kg0.i1).mono ?_; rintro e w1 ⟨rfl, g1⟩
    have kg1 := kg0.rd g1 (by simp) (Nat.le_refl _)
    have s1 := kg1.i1.lt
    simp only at s1
    have kg2 := kg1.new 31 #[.int .u32 ((tabOf l 0).seq : Int), .int .u8 ((tabOf l 0).code : Int), .string (tabOf l 0).text, .int .u32 ((tabOf l 1).seq : Int), .int .u8 ((tabOf l 1).code : Int), .string (tabOf l 1).text, .int .u32 ((tabOf l 2).seq : Int), .int .u8 ((tabOf l 2).code : Int), .string (tabOf l 2).text, .int .u32 ((tabOf l 3).seq : Int), .int .u8 ((tabOf l 3).code : Int), .string (tabOf l 3).text]
    clear kg0 kg1 g1
    go_upto_region 5 with fail
    generalize w1.alloc (.cells #[.int .u32 ((tabOf l 0).seq : Int), .int .u8 ((tabOf l 0).code : Int), .string (tabOf l 0).text, .int .u32 ((tabOf l 1).seq : Int), .int .u8 ((tabOf l 1).code : Int), .string (tabOf l 1).text, .int .u32 ((tabOf l 2).seq : Int), .int .u8 ((tabOf l 2).code : Int), .string (tabOf l 2).text, .int .u32 ((tabOf l 3).seq : Int), .int .u8 ((tabOf l 3).code : Int), .string (tabOf l 3).text] 31) = w2 at *
    go_wp2_with fail
    refine (HR.out _).mono ?_; rintro e w3 ⟨A, c, rfl, hrows, B3⟩
    have kg3 := kg2.below B3
    have s3 := kg3.i1.lt
    simp only at s3
    have kg4 := kg3.new 48 #[.string ⟨ds.toArray⟩, .int .i64 (q.err : Int)]
    have hrows4 : Rows _ A 4 kpC l := Rows.below hrows (below_one w3 (.cells #[.string ⟨ds.toArray⟩, .int .i64 (q.err : Int)] 48))
    clear kg2 kg3 hrows B3
    go_upto_region 6 with fail
    generalize w3.alloc (.cells #[.string ⟨ds.toArray⟩, .int .i64 (q.err : Int)] 48) = w4 at *
    have kg5 := kg4.drew
    have hr5 : Rows w4.drew A 4 kpC l := hrows4
    clear kg4 hrows4
    go_region_held3 (fun W : World => (W.cell? ⟨w1.heap.size, 0, none⟩ = some (.int .u32 ((tabOf l 0).seq : Int)) ∧ W.cell? ⟨w1.heap.size, 1, none⟩ = some (.int .u8 ((tabOf l 0).code : Int)) ∧ W.cell? ⟨w1.heap.size, 2, none⟩ = some (.string (tabOf l 0).text) ∧ W.cell? ⟨w1.heap.size, 3, none⟩ = some (.int .u32 ((tabOf l 1).seq : Int)) ∧ W.cell? ⟨w1.heap.size, 4, none⟩ = some (.int .u8 ((tabOf l 1).code : Int)) ∧ W.cell? ⟨w1.heap.size, 5, none⟩ = some (.string (tabOf l 1).text) ∧ W.cell? ⟨w1.heap.size, 6, none⟩ = some (.int .u32 ((tabOf l 2).seq : Int)) ∧ W.cell? ⟨w1.heap.size, 7, none⟩ = some (.int .u8 ((tabOf l 2).code : Int)) ∧ W.cell? ⟨w1.heap.size, 8, none⟩ = some (.string (tabOf l 2).text) ∧ W.cell? ⟨w1.heap.size, 9, none⟩ = some (.int .u32 ((tabOf l 3).seq : Int)) ∧ W.cell? ⟨w1.heap.size, 10, none⟩ = some (.int .u8 ((tabOf l 3).code : Int)) ∧ W.cell? ⟨w1.heap.size, 11, none⟩ = some (.string (tabOf l 3).text)) ∧ W.cell? ⟨w3.heap.size, 0, none⟩ = some (.string ⟨ds.toArray⟩) ∧ W.cell? ⟨w3.heap.size, 1, none⟩ = some (.int .i64 (q.err : Int)))
      (first | exact ⟨kg5.i2.c12, kg5.i1.c2⟩ | exact ⟨kg6.i2.c12, kg6.i1.c2⟩ | exact ⟨kg7.i2.c12, kg7.i1.c2⟩ | exact ⟨kg8.i2.c12, kg8.i1.c2⟩)
      (first
        | (go_at_call 21; refine (HA.out _ A c hr5).mono ?_; rintro e w6 ⟨rfl, B6⟩; have kg6 := kg5.below B6; clear B6)
        | (go_at_call 27; refine (err_any _ q _ kg6.i3).mono ?_; rintro e w7 ⟨rfl, rfl⟩)
        | (go_at_call 28; refine (HL.out _ _ kg6.i3).mono ?_; rintro e w7 ⟨rfl, rfl⟩)
        | (go_at_call 25; refine (HN.out _).mono ?_; rintro e w7 ⟨rfl, B7⟩; have kg7 := kg6.below B7; clear B7)
        | (go_at_call 16; refine (wakes12_any _).mono ?_; rintro e w8 ⟨rfl, B8⟩; have kg8 := kg7.below B8; clear B8))
    all_goals
      go_wp2_with fail
      go_ret
      exact ⟨rfl, kg8.bw⟩
end Go.Proofs.Ytgbnaifjdfoahaa.Sess
