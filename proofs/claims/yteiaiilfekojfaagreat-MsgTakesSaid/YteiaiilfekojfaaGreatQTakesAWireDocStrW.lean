/- The document's reader of bytes, walked: Str. Conditions: the reader's bytes are fewer than 2^62. -/
import Derived.Test.YteiaiilfekojfaaGreatQTakesAWireDocMore
namespace Go.Proofs.YteiaiilfekojfaaGreat.Wire
open Go.RowKit

set_option linter.unusedSimpArgs false in
set_option maxRecDepth 100000 in
set_option maxHeartbeats 4000000 in
theorem docStr_any (r : Dr) (m : Int) (h1m : -9223372036854775808 ≤ m) (h2m : m ≤ 9223372036854775807) (hl : r.s.length < 4611686018427387904) (hl2 : r.num.2.s.length < 4611686018427387904) (w : World) : Calls Tryz.prog 102 #[drV r, .int .i64 m] w fun e w' => DocRet w (.tuple #[.string ⟨(r.str m).1.toArray⟩, drV (r.str m).2]) e w' := by
  obtain ⟨pp, hpp⟩ : ∃ pp, r.str m = pp := ⟨_, rfl⟩
  rw [hpp]
  have h1 := docNum_any r hl
  unfold Dr.str at hpp
  generalize r.num = p at *
  obtain ⟨v, s1, e1⟩ := p
  obtain ⟨s, e⟩ := r
  simp only at h1 hpp hl2
  obtain ⟨M, hM⟩ : ∃ M : Nat, (max m 0).toNat = M := ⟨_, rfl⟩
  rw [hM] at hpp
  have hM2 : M ≤ 9223372036854775807 := by omega
  have HM := Lib.hid hM
  have k := kg_two w 121 121 #[.string ⟨s.toArray⟩, .int .i64 (e : Int)] #[.string ⟨#[]⟩, .int .i64 0]
  have H1 := Lib.hid h1
  have HP := Lib.hid hpp
  clear h1 hpp hM
  unfold DocRet drV drC at H1
  unfold drV drC
  simp only at H1
  by_cases he : e1 = 0
  · subst he
    have hsz := size_str s1
    go_enter Tryz.func102, Tryz.ntmps102
    go_wp2_with fail
    refine (H1.out _).mono ?_; rintro e w1 ⟨rfl, B1⟩
    have k := k.below B1
    have hz := k.i1.lt
    simp only at hz
    have k := (k.new 121 #[.string ⟨s1.toArray⟩, .int .i64 ((0 : Nat) : Int)]).swap
    clear B1
    go_upto_if 18 with fail
    generalize w1.alloc (.cells #[.string ⟨s1.toArray⟩, .int .i64 0] 121) = w2 at *
    go_cut [1] (fun s1v wx => s1v = .int .i64 (M : Int) ∧ w2 = wx)
    case first =>
      by_cases hm : m < 0
      · have e0 : (M : Int) = 0 := by have := HM.out; omega
        have E0 := Lib.hid e0
        clear e0
        go_wp2_with fail
        go_meet
        exact ⟨by rw [E0.out], rfl⟩
      · have e0 : m = (M : Int) := by have := HM.out; omega
        subst e0
        go_wp2_with fail
        go_meet
        exact ⟨rfl, rfl⟩
    case rest =>
      obtain ⟨rfl, rfl⟩ := hcut
      clear H1 HM h1m h2m
      obtain ⟨d0, d1⟩ := k.i2.c2
      simp only at d0 d1
      by_cases hv : M < v
      · have hp2 : pp = ([], ⟨[], 4⟩) := by rw [← HP.out, if_neg (by simp), if_pos hv]
        have HP2 := Lib.hid hp2
        have hv2 : (M : Int) < (v : Int) := by omega
        clear hp2 hv
        go_wp2_with fail
        refine (none_any 4 _).mono ?_; rintro e w3 ⟨rfl, B3⟩
        have k := k.below B3
        clear B3 d0 d1
        obtain ⟨c0, c1⟩ := k.i1.c2
        obtain ⟨f0, f1⟩ := k.i1.f2
        go_wp2_with fail
        have kk := k.set2 (v0 := .string ⟨#[]⟩) (v1 := .int .i64 4) (by simp <;> omega) (Nat.le_succ _)
        obtain ⟨y0, y1⟩ := kk.i1.c2
        rw [HP2.out]
        refine bodyPost_ret (v := .tuple #[.string ⟨#[]⟩, .agg #[.string ⟨#[]⟩, .int .i64 4]]) (by simp [results, Tryz.results102, go_sem, y0, y1]) rfl ⟨rfl, kk.bw⟩
      · have hv2 : ¬ (M : Int) < (v : Int) := by omega
        by_cases hs : s1.length < v
        · have hp2 : pp = ([], ⟨[], 3⟩) := by rw [← HP.out, if_neg (by simp), if_neg hv, if_pos hs]
          have HP2 := Lib.hid hp2
          have hs2 : (s1.length : Int) < (v : Int) := by omega
          clear hp2 hv hs
          go_wp2_with fail
          refine (none_any 3 _).mono ?_; rintro e w3 ⟨rfl, B3⟩
          have k := k.below B3
          clear B3 d0 d1
          obtain ⟨c0, c1⟩ := k.i1.c2
          obtain ⟨f0, f1⟩ := k.i1.f2
          go_wp2_with fail
          have kk := k.set2 (v0 := .string ⟨#[]⟩) (v1 := .int .i64 3) (by simp <;> omega) (Nat.le_succ _)
          obtain ⟨y0, y1⟩ := kk.i1.c2
          rw [HP2.out]
          refine bodyPost_ret (v := .tuple #[.string ⟨#[]⟩, .agg #[.string ⟨#[]⟩, .int .i64 3]]) (by simp [results, Tryz.results102, go_sem, y0, y1]) rfl ⟨rfl, kk.bw⟩
        · have hp2 : pp = (s1.take v, ⟨s1.drop v, 0⟩) := by rw [← HP.out, if_neg (by simp), if_neg hv, if_neg hs]
          have HP2 := Lib.hid hp2
          have hs2 : ¬ (s1.length : Int) < (v : Int) := by omega
          have hs3 : (v : Int) ≤ (s1.length : Int) := by omega
          have h0 : (0 : Int) ≤ (v : Int) := by omega
          have E1 := take_str s1 v
          have E2 := drop_str s1 v
          rw [hsz] at E2
          obtain ⟨c0, c1⟩ := k.i1.c2
          obtain ⟨f0, f1⟩ := k.i1.f2
          clear hp2 hv hs
          have kk := k.set2 (v0 := .string ⟨(s1.drop v).toArray⟩) (v1 := .int .i64 0) (by simp <;> omega) (Nat.le_succ _)
          have z0 := (k.set_ (i := 0) (by simp <;> omega) (Nat.le_succ _) (.string ⟨(s1.drop v).toArray⟩)).i1.cell 0
          obtain ⟨y0, y1⟩ := kk.i1.c2
          simp at z0
          go_wp2_with fail
          go_region_held3 (fun W : World => W.cell? ⟨w1.heap.size, 0, none⟩ = some (.string ⟨s1.toArray⟩)) (first | exact k.drew.i2.cell 0 | exact kk.drew.i2.cell 0) (fail)
          all_goals
            go_wp2_with fail
            rw [HP2.out]
            refine bodyPost_ret (v := .tuple #[.string ⟨(s1.take v).toArray⟩, .agg #[.string ⟨(s1.drop v).toArray⟩, .int .i64 0]]) (by simp [results, Tryz.results102, go_sem, y0, y1, z0]) rfl ⟨rfl, kk.drew.bw⟩
  · have hp2 : pp = ([], ⟨s1, e1⟩) := by rw [← HP.out, if_pos he]
    rw [hp2]
    have hb : ((e1 : Int) != 0) = true := by rw [bne_iff_ne]; omega
    clear hp2 he HM
    go_enter Tryz.func102, Tryz.ntmps102
    go_wp2_with fail
    refine (H1.out _).mono ?_; rintro e w1 ⟨rfl, B1⟩
    have k := k.below B1
    have hz := k.i1.lt
    simp only at hz
    have k := (k.new 121 #[.string ⟨s1.toArray⟩, .int .i64 (e1 : Int)]).swap
    clear B1
    go_wp2_with fail
    generalize w1.alloc (.cells #[.string ⟨s1.toArray⟩, .int .i64 (e1 : Int)] 121) = w2 at *
    obtain ⟨c0, c1⟩ := k.i1.c2
    obtain ⟨f0, f1⟩ := k.i1.f2
    have kk := k.set2 (v0 := .string ⟨s1.toArray⟩) (v1 := .int .i64 (e1 : Int)) (by simp <;> omega) (Nat.le_succ _)
    have z0 := (k.set_ (i := 0) (by simp <;> omega) (Nat.le_succ _) (.string ⟨s1.toArray⟩)).i1.cell 0
    obtain ⟨y0, y1⟩ := kk.i1.c2
    simp at z0
    go_region_held3 (fun W : World => W.cell? ⟨w1.heap.size, 0, none⟩ = some (.string ⟨s1.toArray⟩) ∧ W.cell? ⟨w1.heap.size, 1, none⟩ = some (.int .i64 (e1 : Int))) (first | exact ⟨k.drew.i2.cell 0, k.drew.i2.cell 1⟩ | exact ⟨kk.drew.i2.cell 0, kk.drew.i2.cell 1⟩) (fail)
    all_goals
      go_wp2_with fail
      refine bodyPost_ret (v := .tuple #[.string ⟨#[]⟩, .agg #[.string ⟨s1.toArray⟩, .int .i64 (e1 : Int)]]) (by simp [results, Tryz.results102, go_sem, y0, y1, z0]) rfl ⟨rfl, kk.drew.bw⟩
end Go.Proofs.YteiaiilfekojfaaGreat.Wire
