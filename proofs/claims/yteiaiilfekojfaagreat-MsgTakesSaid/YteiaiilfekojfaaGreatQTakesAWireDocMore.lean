/- The document's reader of bytes, walked: End, Bad, Below, Str. Conditions: the reader's bytes are fewer than 2^62. -/
import Derived.Test.YteiaiilfekojfaaGreatQTakesAWireDocStr
namespace Go.Proofs.YteiaiilfekojfaaGreat.Wire
open Go.RowKit

theorem below_lits (w : World) (a b : Obj) : Below w.heap.size w ((w.alloc a).alloc b) := ((Below.refl _ w).alloc (Nat.le_refl _) a).alloc (by simp) b
theorem kg_two (w : World) (t u : TypeId) (a b : Array Value) : Kg [(w.heap.size + 1, u, b), (w.heap.size, t, a)] w ((w.alloc (.cells a t)).alloc (.cells b u)) := by
  have k := ((Kg.refl w).new t a).new u b
  have e1 : (w.alloc (.cells a t)).heap.size = w.heap.size + 1 := by simp
  rw [e1] at k
  exact k

set_option linter.unusedSimpArgs false in
set_option maxRecDepth 100000 in
set_option maxHeartbeats 2000000 in
theorem docEnd_any (r : Dr) (w : World) : Calls Tryz.prog 63 #[drV r] w fun e w' => DocRet w (drV r.end_) e w' := by
  obtain ⟨s, e⟩ := r
  have k := kg_two w 121 121 #[.string ⟨s.toArray⟩, .int .i64 (e : Int)] #[.string ⟨#[]⟩, .int .i64 0]
  have hsz := size_str s
  by_cases h : e = 0 ∧ 0 < s.length
  · have hp : Dr.end_ ⟨s, e⟩ = ⟨[], 4⟩ := by unfold Dr.end_; rw [if_pos h]
    rw [hp]
    obtain ⟨he, hs⟩ := h
    have hb : ((e : Int) == 0) = true := by rw [he]; rfl
    have hs2 : (0 : Int) < (s.length : Int) := by omega
    clear hp he hs
    unfold drV drC at *
    go_enter Tryz.func63, Tryz.ntmps63
    go_wp2_with fail
    refine (none_any 4 _).mono ?_; rintro e w1 ⟨rfl, B1⟩
    have k := k.below B1
    obtain ⟨c0, c1⟩ := k.i1.c2
    obtain ⟨f0, f1⟩ := k.i1.f2
    clear B1
    go_wp2_with fail
    have kk := k.set2 (v0 := .string ⟨#[]⟩) (v1 := .int .i64 4) (by simp) (Nat.le_succ _)
    obtain ⟨y0, y1⟩ := kk.i1.c2
    refine bodyPost_ret (v := .agg #[.string ⟨#[]⟩, .int .i64 4]) (by simp [results, Tryz.results63, go_sem, y0, y1]) rfl ⟨rfl, kk.bw⟩
  · have hp : Dr.end_ ⟨s, e⟩ = ⟨s, e⟩ := by unfold Dr.end_; rw [if_neg h]
    rw [hp]
    clear hp
    by_cases he : e = 0
    · have hb : ((e : Int) == 0) = true := by rw [he]; rfl
      have hs2 : ¬ (0 : Int) < (s.length : Int) := by omega
      clear h he
      unfold drV drC at *
      go_enter Tryz.func63, Tryz.ntmps63
      go_wp2_with fail
      refine bodyPost_ret (v := .agg #[.string ⟨s.toArray⟩, .int .i64 (e : Int)]) (by simp [results, Tryz.results63, go_sem]) rfl ⟨rfl, below_lits _ _ _⟩
    · have hb : ((e : Int) == 0) = false := beq_eq_false_iff_ne.2 (by omega)
      clear h he
      unfold drV drC at *
      go_enter Tryz.func63, Tryz.ntmps63
      go_wp2_with fail
      refine bodyPost_ret (v := .agg #[.string ⟨s.toArray⟩, .int .i64 (e : Int)]) (by simp [results, Tryz.results63, go_sem]) rfl ⟨rfl, below_lits _ _ _⟩

set_option linter.unusedSimpArgs false in
set_option maxRecDepth 100000 in
set_option maxHeartbeats 2000000 in
theorem docBad_any (r : Dr) (w : World) : Calls Tryz.prog 166 #[drV r] w fun e w' => DocRet w (drV r.bad) e w' := by
  obtain ⟨s, e⟩ := r
  have k := kg_two w 121 121 #[.string ⟨s.toArray⟩, .int .i64 (e : Int)] #[.string ⟨#[]⟩, .int .i64 0]
  by_cases h : e = 0
  · have hp : Dr.bad ⟨s, e⟩ = ⟨[], 4⟩ := by unfold Dr.bad; rw [if_pos h]
    rw [hp]
    have hb : ((e : Int) == 0) = true := by rw [h]; rfl
    clear hp h
    unfold drV drC at *
    go_enter Tryz.func166, Tryz.ntmps166
    go_wp2_with fail
    refine (none_any 4 _).mono ?_; rintro e w1 ⟨rfl, B1⟩
    have k := k.below B1
    obtain ⟨c0, c1⟩ := k.i1.c2
    obtain ⟨f0, f1⟩ := k.i1.f2
    clear B1
    go_wp2_with fail
    have kk := k.set2 (v0 := .string ⟨#[]⟩) (v1 := .int .i64 4) (by simp) (Nat.le_succ _)
    obtain ⟨y0, y1⟩ := kk.i1.c2
    refine bodyPost_ret (v := .agg #[.string ⟨#[]⟩, .int .i64 4]) (by simp [results, Tryz.results166, go_sem, y0, y1]) rfl ⟨rfl, kk.bw⟩
  · have hp : Dr.bad ⟨s, e⟩ = ⟨s, e⟩ := by unfold Dr.bad; rw [if_neg h]
    rw [hp]
    have hb : ((e : Int) == 0) = false := beq_eq_false_iff_ne.2 (by omega)
    clear hp h
    unfold drV drC at *
    go_enter Tryz.func166, Tryz.ntmps166
    go_wp2_with fail
    refine bodyPost_ret (v := .agg #[.string ⟨s.toArray⟩, .int .i64 (e : Int)]) (by simp [results, Tryz.results166, go_sem]) rfl ⟨rfl, below_lits _ _ _⟩

set_option linter.unusedSimpArgs false in
set_option maxRecDepth 100000 in
set_option maxHeartbeats 4000000 in
theorem docBelow_any (r : Dr) (n : Nat) (hl : r.s.length < 4611686018427387904) (w : World) : Calls Tryz.prog 101 #[drV r, .int .u64 (n : Int)] w fun e w' => DocRet w (.tuple #[.int .u64 ((r.below n).1 : Int), drV (r.below n).2]) e w' := by
  obtain ⟨pp, hpp⟩ : ∃ pp, r.below n = pp := ⟨_, rfl⟩
  rw [hpp]
  have h1 := docNum_any r hl
  unfold Dr.below at hpp
  generalize r.num = p at *
  obtain ⟨v, s1, e1⟩ := p
  obtain ⟨s, e⟩ := r
  simp only at h1 hpp
  have k := kg_two w 121 121 #[.string ⟨s.toArray⟩, .int .i64 (e : Int)] #[.string ⟨#[]⟩, .int .i64 0]
  have H1 := Lib.hid h1
  have HP := Lib.hid hpp
  clear h1 hpp
  unfold DocRet drV drC at H1
  unfold drV drC
  simp only at H1
  by_cases h : e1 = 0 ∧ n ≤ v
  · obtain ⟨he, hv⟩ := h
    have hp2 : pp = (0, ⟨[], 4⟩) := by rw [← HP.out, if_pos ⟨he, hv⟩]
    rw [hp2]
    have hb : ((e1 : Int) == 0) = true := by rw [he]; rfl
    have hv2 : (n : Int) ≤ (v : Int) := by omega
    clear hp2 he hv
    go_enter Tryz.func101, Tryz.ntmps101
    go_wp2_with fail
    refine (H1.out _).mono ?_; rintro e w1 ⟨rfl, B1⟩
    have k := (k.below B1).new 121 #[.string ⟨s1.toArray⟩, .int .i64 (e1 : Int)]
    clear B1
    go_wp2_with fail
    refine (none_any 4 _).mono ?_; rintro e w2 ⟨rfl, B2⟩
    have k := (k.below B2).tail
    clear B2
    obtain ⟨c0, c1⟩ := k.i1.c2
    obtain ⟨f0, f1⟩ := k.i1.f2
    go_wp2_with fail
    have kk := k.set2 (v0 := .string ⟨#[]⟩) (v1 := .int .i64 4) (by simp) (Nat.le_succ _)
    obtain ⟨y0, y1⟩ := kk.i1.c2
    refine bodyPost_ret (v := .tuple #[.int .u64 0, .agg #[.string ⟨#[]⟩, .int .i64 4]]) (by simp [results, Tryz.results101, go_sem, y0, y1]) rfl ⟨rfl, kk.bw⟩
  · have hp2 : pp = (v, ⟨s1, e1⟩) := by rw [← HP.out, if_neg h]
    rw [hp2]
    clear hp2
    by_cases he : e1 = 0
    · have hb : ((e1 : Int) == 0) = true := by rw [he]; rfl
      have hv2 : ¬ (n : Int) ≤ (v : Int) := by omega
      clear h he
      go_enter Tryz.func101, Tryz.ntmps101
      go_wp2_with fail
      refine (H1.out _).mono ?_; rintro e w1 ⟨rfl, B1⟩
      have k := k.below B1
      have hz := k.i1.lt
      simp only at hz
      have k := (k.new 121 #[.string ⟨s1.toArray⟩, .int .i64 (e1 : Int)]).swap
      clear B1
      go_wp2_with fail
      generalize w1.alloc (.cells #[.string ⟨s1.toArray⟩, .int .i64 (e1 : Int)] 121) = w2 at *
      obtain ⟨c0, c1⟩ := k.i1.c2
      obtain ⟨f0, f1⟩ := k.i1.f2
      have kk := k.set2 (v0 := .string ⟨s1.toArray⟩) (v1 := .int .i64 (e1 : Int)) (by simp <;> omega) (Nat.le_succ _)
      have z0 := (k.set_ (i := 0) (by simp <;> omega) (Nat.le_succ _) (.string ⟨s1.toArray⟩)).i1.cell 0
      obtain ⟨y0, y1⟩ := kk.i1.c2
      simp at z0
      go_region_held3 (fun W : World => W.cell? ⟨w1.heap.size, 0, none⟩ = some (.string ⟨s1.toArray⟩) ∧ W.cell? ⟨w1.heap.size, 1, none⟩ = some (.int .i64 (e1 : Int))) (first | exact ⟨k.drew.i2.cell 0, k.drew.i2.cell 1⟩ | exact ⟨kk.drew.i2.cell 0, kk.drew.i2.cell 1⟩) (fail)
      all_goals
        go_wp2_with fail
        refine bodyPost_ret (v := .tuple #[.int .u64 (v : Int), .agg #[.string ⟨s1.toArray⟩, .int .i64 (e1 : Int)]]) (by simp [results, Tryz.results101, go_sem, y0, y1, z0]) rfl ⟨rfl, kk.drew.bw⟩
    · have hb : ((e1 : Int) == 0) = false := beq_eq_false_iff_ne.2 (by omega)
      clear h he
      go_enter Tryz.func101, Tryz.ntmps101
      go_wp2_with fail
      refine (H1.out _).mono ?_; rintro e w1 ⟨rfl, B1⟩
      have k := k.below B1
      have hz := k.i1.lt
      simp only at hz
      have k := (k.new 121 #[.string ⟨s1.toArray⟩, .int .i64 (e1 : Int)]).swap
      clear B1
      go_wp2_with fail
      generalize w1.alloc (.cells #[.string ⟨s1.toArray⟩, .int .i64 (e1 : Int)] 121) = w2 at *
      obtain ⟨c0, c1⟩ := k.i1.c2
      obtain ⟨f0, f1⟩ := k.i1.f2
      have kk := k.set2 (v0 := .string ⟨s1.toArray⟩) (v1 := .int .i64 (e1 : Int)) (by simp <;> omega) (Nat.le_succ _)
      have z0 := (k.set_ (i := 0) (by simp <;> omega) (Nat.le_succ _) (.string ⟨s1.toArray⟩)).i1.cell 0
      obtain ⟨y0, y1⟩ := kk.i1.c2
      simp at z0
      go_region_held3 (fun W : World => W.cell? ⟨w1.heap.size, 0, none⟩ = some (.string ⟨s1.toArray⟩) ∧ W.cell? ⟨w1.heap.size, 1, none⟩ = some (.int .i64 (e1 : Int))) (first | exact ⟨k.drew.i2.cell 0, k.drew.i2.cell 1⟩ | exact ⟨kk.drew.i2.cell 0, kk.drew.i2.cell 1⟩) (fail)
      all_goals
        go_wp2_with fail
        refine bodyPost_ret (v := .tuple #[.int .u64 (v : Int), .agg #[.string ⟨s1.toArray⟩, .int .i64 (e1 : Int)]]) (by simp [results, Tryz.results101, go_sem, y0, y1, z0]) rfl ⟨rfl, kk.drew.bw⟩
end Go.Proofs.YteiaiilfekojfaaGreat.Wire
