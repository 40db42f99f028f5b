/- The document's Take of a ballot, walked; it is the program's. Conditions: the reader's bytes are fewer than 2^62. -/
import Derived.Test.YteiaiilfekojfaaGreatQTakesAWireDocNum
import Derived.Test.YteiaiilfekojfaaGreatQTakesABalTake
namespace Go.Proofs.YteiaiilfekojfaaGreat.Bal
open Go.RowKit Wire

def docTakeB (r : Dr) : B × Dr :=
  let p := r.num
  let q := p.2.byte
  if q.2.e ≠ 0 then (⟨0, 0⟩, q.2) else if mayB ⟨p.1, q.1⟩ then (⟨p.1, q.1⟩, q.2) else (⟨0, 0⟩, ⟨[], 4⟩)
theorem doc_take (r : Rd) : docTakeB r.doc = ((takeB r).1, (takeB r).2.doc) := by
  unfold docTakeB takeB
  simp only
  rw [doc_num]
  simp only
  rw [doc_byte]
  simp only
  generalize r.num.2.byte.2 = q
  generalize mayB ⟨r.num.1, r.num.2.byte.1⟩ = m
  obtain ⟨e, l⟩ := q
  unfold Rd.doc Rd.bad Rd.fail
  by_cases h : e = 0
  · subst h
    cases m <;> simp
  · cases m <;> simp [h]
theorem num_rest_doc (r : Dr) (hl : r.s.length < 4611686018427387904) : r.num.2.s.length < 4611686018427387904 := by
  unfold Dr.num
  split
  · exact hl
  · split
    · simp
    · rename_i b l hs
      rw [hs] at hl
      split
      · simp
      · split
        · simp only [List.length_drop]; omega
        · simp

theorem kg_sub {L L' : List (Nat × TypeId × Array Value)} {w W : World} (k : Kg L w W) (h : ∀ p ∈ L', p ∈ L) : Kg L' w W := ⟨k.bw, fun p hp => k.at_ p (h p hp)⟩
theorem kg_rot {a b c d : Nat × TypeId × Array Value} {w W : World} (k : Kg [d, c, b, a] w W) : Kg [a, d, c, b] w W := kg_sub k (by
  intro p hp
  simp only [List.mem_cons, List.not_mem_nil, or_false] at hp ⊢
  rcases hp with h | h | h | h <;> simp [h])
theorem kg_last {a b c : Nat × TypeId × Array Value} {w W : World} (k : Kg [c, b, a] w W) : Kg [a, c, b] w W := ⟨k.bw, fun p hp => k.at_ p (by
  simp only [List.mem_cons] at hp ⊢
  rcases hp with h | h | h | h
  · exact .inr (.inr (.inl h))
  · exact .inl h
  · exact .inr (.inl h)
  · exact .inr (.inr (.inr h)))⟩
set_option linter.unusedSimpArgs false in
set_option maxRecDepth 100000 in
set_option maxHeartbeats 4000000 in
theorem docTake_any (r : Dr) (hl : r.s.length < 4611686018427387904) (w : World) : Calls Tryz.prog 103 #[drV r] w fun e w' => DocRet w (.tuple #[bV (docTakeB r).1, drV (docTakeB r).2]) e w' := by
  obtain ⟨pp, hpp⟩ : ∃ pp, docTakeB r = pp := ⟨_, rfl⟩
  rw [hpp]
  have h1 := docNum_any r hl
  have hl1 := num_rest_doc r hl
  have h2 := docByte_any r.num.2 hl1
  unfold docTakeB at hpp
  simp only at hpp
  generalize r.num = p at *
  obtain ⟨n, r1⟩ := p
  simp only at h1 h2 hl1 hpp
  generalize r1.byte = q at *
  obtain ⟨c, s2, e2⟩ := q
  obtain ⟨s, e⟩ := r
  obtain ⟨s1, e1⟩ := r1
  simp only at hpp
  have kA := (((Kg.refl w).new 121 #[.string ⟨s.toArray⟩, .int .i64 (e : Int)]).new 24 #[.int .u64 0, .int .u8 0]).new 121 #[.string ⟨#[]⟩, .int .i64 0]
  have q1 : (w.alloc (.cells #[.string ⟨s.toArray⟩, .int .i64 (e : Int)] 121)).heap.size = w.heap.size + 1 := by simp
  have q2 : ((w.alloc (.cells #[.string ⟨s.toArray⟩, .int .i64 (e : Int)] 121)).alloc (.cells #[.int .u64 0, .int .u8 0] 24)).heap.size = w.heap.size + 1 + 1 := by simp
  rw [q1, q2] at kA
  have k := kg_last kA
  have H1 := Lib.hid h1
  have H2 := Lib.hid h2
  have HP := Lib.hid hpp
  clear h1 h2 hpp q1 q2 kA
  unfold DocRet drV drC at H1 H2
  unfold drV drC bV bC
  simp only at H1 H2
  go_enter Tryz.func103, Tryz.ntmps103
  go_wp2_with fail
  refine (H1.out _).mono ?_; rintro e w1 ⟨rfl, B1⟩
  have k := k.below B1
  obtain ⟨c0, c1⟩ := k.i1.c2
  obtain ⟨f0, f1⟩ := k.i1.f2
  clear B1
  have k2 := k.set2 (v0 := .string ⟨s1.toArray⟩) (v1 := .int .i64 (e1 : Int)) (by simp <;> omega) (Nat.le_refl _)
  go_wp2_with fail
  refine (H2.out _).mono ?_; rintro e w2 ⟨rfl, B2⟩
  have k := k2.below B2
  clear B2 k2 c0 c1 f0 f1
  obtain ⟨c0, c1⟩ := k.i1.c2
  obtain ⟨f0, f1⟩ := k.i1.f2
  obtain ⟨d0, d1⟩ := k.i2.c2
  obtain ⟨g0, g1⟩ := k.i2.f2
  obtain ⟨b0, b1⟩ := k.i3.c2
  obtain ⟨j0, j1⟩ := k.i3.f2
  by_cases he : e2 = 0
  · subst he
    have hm := may_any ⟨n, c⟩
    generalize mayB ⟨n, c⟩ = m at *
    have HM := Lib.hid hm
    clear hm
    unfold bV bC at HM
    have k3 := k.set2 (v0 := .string ⟨s2.toArray⟩) (v1 := .int .i64 ((0 : Nat) : Int)) (by simp <;> omega) (Nat.le_refl _)
    have k2z := k.i2.lt
    simp only at k2z
    have k4 := k3.new 24 #[.int .u64 (n : Int), .int .u8 (c : Int)]
    clear k
    go_wp2_with fail
    refine (HM.out _).mono ?_; rintro e w4 ⟨rfl, B4⟩
    have k := k4.below (Al1.below B4)
    clear B4 k4 k3 c0 c1 f0 f1 d0 d1 g0 g1 b0 b1 j0 j1
    have ez : ((w2.setCell ⟨w.heap.size, 0, none⟩ (.string ⟨s2.toArray⟩)).setCell ⟨w.heap.size, 1, none⟩ (.int .i64 ((0 : Nat) : Int))).heap.size = w2.heap.size := by simp
    rw [ez] at k
    have hz := k2z
    obtain ⟨x0, x1⟩ := k.i1.c2
    obtain ⟨c0, c1⟩ := k.i2.c2
    obtain ⟨d0, d1⟩ := k.i3.c2
    obtain ⟨g0, g1⟩ := k.i3.f2
    obtain ⟨b0, b1⟩ := k.i4.c2
    obtain ⟨j0, j1⟩ := k.i4.f2
    have k := kg_rot k
    cases m
    · go_wp2_with fail
      have ka := k.set2 (v0 := .int .u64 0) (v1 := .int .u8 0) (by simp <;> omega) (by omega)
      have kb := (kg_rot ka).set2 (v0 := .string ⟨#[]⟩) (v1 := .int .i64 4) (by simp <;> omega) (by omega)
      obtain ⟨y0, y1⟩ := kb.i1.c2
      obtain ⟨z0, z1⟩ := kb.i2.c2
      have hp2 : pp = (⟨0, 0⟩, ⟨[], 4⟩) := by rw [← HP.out]; simp
      rw [hp2]
      refine bodyPost_ret (v := .tuple #[.agg #[.int .u64 0, .int .u8 0], .agg #[.string ⟨#[]⟩, .int .i64 4]]) (by simp [results, Tryz.results103, go_sem, y0, y1, z0, z1]) rfl ⟨rfl, kb.bw⟩
    · go_wp2_with fail
      have ka := k.set2 (v0 := .int .u64 (n : Int)) (v1 := .int .u8 (c : Int)) (by simp <;> omega) (by omega)
      have kb := (kg_rot ka).set2 (v0 := .string ⟨s2.toArray⟩) (v1 := .int .i64 ((0 : Nat) : Int)) (by simp <;> omega) (by omega)
      go_region_held3 (fun W : World => (W.cell? ⟨w2.heap.size, 0, none⟩ = some (.int .u64 (n : Int)) ∧ W.cell? ⟨w2.heap.size, 1, none⟩ = some (.int .u8 (c : Int))) ∧ W.cell? ⟨w.heap.size, 0, none⟩ = some (.string ⟨s2.toArray⟩) ∧ W.cell? ⟨w.heap.size, 1, none⟩ = some (.int .i64 ((0 : Nat) : Int))) (first | exact ⟨⟨k.drew.i2.cell 0, k.drew.i2.cell 1⟩, k.drew.i3.cell 0, k.drew.i3.cell 1⟩ | exact ⟨⟨ka.drew.i2.cell 0, ka.drew.i2.cell 1⟩, ka.drew.i3.cell 0, ka.drew.i3.cell 1⟩ | exact ⟨⟨kb.drew.i3.cell 0, kb.drew.i3.cell 1⟩, kb.drew.i4.cell 0, kb.drew.i4.cell 1⟩) (fail)
      all_goals
        go_wp2_with fail
        have m1 := k.set_ (i := 0) (by simp <;> omega) (by omega) (.int .u64 (n : Int))
        have m2 := m1.set_ (i := 1) (by simp <;> omega) (by omega) (.int .u8 (c : Int))
        have m3 := (kg_rot m2).set_ (i := 0) (by simp <;> omega) (by omega) (.string ⟨s2.toArray⟩)
        have m4 := m3.set_ (i := 1) (by simp <;> omega) (by omega) (.int .i64 ((0 : Nat) : Int))
        have z0 := m1.i1.cell 0
        have z1 := m2.i1.cell 1
        have y0 := m3.i1.cell 0
        have y1 := m4.i1.cell 1
        simp at y0 y1 z0 z1
        have hp2 : pp = (⟨n, c⟩, ⟨s2, 0⟩) := by rw [← HP.out]; simp
        rw [hp2]
        refine bodyPost_ret (v := .tuple #[.agg #[.int .u64 (n : Int), .int .u8 (c : Int)], .agg #[.string ⟨s2.toArray⟩, .int .i64 ((0 : Nat) : Int)]]) (by simp [results, Tryz.results103, go_sem, y0, y1, z0, z1]) rfl ⟨rfl, kb.drew.bw⟩
  · have hne : ((e2 : Int) != 0) = true := by rw [bne_iff_ne]; omega
    have HE := Lib.hid he
    clear he
    have k3 := k.set2 (v0 := .string ⟨s2.toArray⟩) (v1 := .int .i64 (e2 : Int)) (by simp <;> omega) (Nat.le_refl _)
    go_wp2_with fail
    clear c0 c1 f0 f1 d0 d1 g0 g1 b0 b1 j0 j1 k
    generalize (w2.setCell ⟨w.heap.size, 0, none⟩ (.string ⟨s2.toArray⟩)).setCell ⟨w.heap.size, 1, none⟩ (.int .i64 (e2 : Int)) = w3 at *
    have k := k3.drew
    obtain ⟨c0, c1⟩ := k3.i1.c2
    obtain ⟨d0, d1⟩ := k3.i2.c2
    obtain ⟨g0, g1⟩ := k3.i2.f2
    obtain ⟨b0, b1⟩ := k3.i3.c2
    obtain ⟨j0, j1⟩ := k3.i3.f2
    simp only at c0 c1 d0 d1 g0 g1 b0 b1 j0 j1
    have K3 := Lib.hid k3
    clear k3
    have ka := (kg_last k).set2 (v0 := .int .u64 0) (v1 := .int .u8 0) (by simp <;> omega) (by omega)
    have kb := (kg_last ka).set2 (v0 := .string ⟨s2.toArray⟩) (v1 := .int .i64 (e2 : Int)) (by simp <;> omega) (by omega)
    go_region_held3 (fun W : World => W.cell? ⟨w.heap.size, 0, none⟩ = some (.string ⟨s2.toArray⟩) ∧ W.cell? ⟨w.heap.size, 1, none⟩ = some (.int .i64 (e2 : Int))) (first | exact ⟨k.i1.cell 0, k.i1.cell 1⟩ | exact ⟨ka.i2.cell 0, ka.i2.cell 1⟩ | exact ⟨kb.i3.cell 0, kb.i3.cell 1⟩) (fail)
    all_goals
      go_wp2_with fail
      have m1 := (kg_last K3.out).set_ (i := 0) (by simp <;> omega) (by omega) (.int .u64 0)
      have m2 := m1.set_ (i := 1) (by simp <;> omega) (by omega) (.int .u8 0)
      have m3 := (kg_last m2).set_ (i := 0) (by simp <;> omega) (by omega) (.string ⟨s2.toArray⟩)
      have m4 := m3.set_ (i := 1) (by simp <;> omega) (by omega) (.int .i64 (e2 : Int))
      have z0 := m1.i1.cell 0
      have z1 := m2.i1.cell 1
      have y0 := m3.i1.cell 0
      have y1 := m4.i1.cell 1
      simp at y0 y1 z0 z1
      have hp2 : pp = (⟨0, 0⟩, ⟨s2, e2⟩) := by rw [← HP.out, if_pos HE.out]
      rw [hp2]
      refine bodyPost_ret (v := .tuple #[.agg #[.int .u64 0, .int .u8 0], .agg #[.string ⟨s2.toArray⟩, .int .i64 (e2 : Int)]]) (by simp [results, Tryz.results103, go_sem, y0, y1, z0, z1]) rfl ⟨rfl, kb.bw⟩
end Go.Proofs.YteiaiilfekojfaaGreat.Bal
