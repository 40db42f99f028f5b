/- One ask of a reader and of the document's, walked: Bad, End, and any ask. Conditions: the reader's bytes are fewer than 2^62. -/
import Derived.Test.YtgoppdllknimfaaWireAsked
namespace Go.Proofs.Ytgoppdllknimfaa.Wire
open Go.RowKit

theorem kr_ask4 (g : Nat) (q : Rd) (w : World) (h : RdAt w g q) (c : Array Value) (a : Array Value) : Kr g [(g, 80, rdC q), (w.heap.size + 2, 59, #[.string ⟨#[]⟩, .int .i64 0]), (w.heap.size, 59, c), (w.heap.size + 1, 63, a)] w
    (((w.alloc (.cells c 59)).alloc (.cells a 63)).alloc (.cells #[.string ⟨#[]⟩, .int .i64 0] 59)) := by
  have k := ((((Kr.refl g w).cons (a := (g, 80, rdC q)) h).new 59 c).new 63 a).new 59 #[.string ⟨#[]⟩, .int .i64 0]
  have e0 : (w.alloc (.cells c 59)).heap.size = w.heap.size + 1 := by simp
  have e1 : ((w.alloc (.cells c 59)).alloc (.cells a 63)).heap.size = w.heap.size + 2 := by simp
  rw [e1, e0] at k
  refine k.sub ?_
  intro p hp
  simp only [List.mem_cons, List.not_mem_nil, or_false] at hp ⊢
  rcases hp with h | h | h | h <;> simp [h]

set_option linter.unusedSimpArgs false in
set_option maxRecDepth 100000 in
set_option maxHeartbeats 4000000 in
theorem asked_4 (g : Nat) (q : Rd) (n : Nat) (m : Int) (w : World) (h : RdAt w g q) (hg : g < w.heap.size) :
    Calls Try.prog 36 #[.pointer (some ⟨g, 0, none⟩), drV q.doc, .agg #[.int .u8 4, .int .u64 (n : Int), .int .i64 m]] w fun e w' => AskRet w g q.bad e w' := by
  have h1 := docBad_any q.doc
  have k0 := kr_ask4 g q w h (drC q.doc) #[.int .u8 4, .int .u64 (n : Int), .int .i64 m]
  have h2 := fun W hW => bad_any g q W hW
  rw [doc_bad] at h1
  obtain ⟨ds, e1, _⟩ := doc_of q
  obtain ⟨ds1, e2, _⟩ := doc_of q.bad
  generalize q.bad = q1 at *
  unfold AskRet
  rw [e1] at h1 k0 ⊢
  rw [e2] at h1 ⊢
  have H1 := Lib.hid h1
  have H2 := Lib.hid h2
  clear h1 h2 e1 e2 h
  unfold DocRet drV drC at H1
  unfold drV drC at *
  simp only at H1 k0
  have hgn : w.heap.size ≤ w.heap.size + 2 := by omega
  go_enter Try.func36, Try.ntmps36
  go_wp2_with fail
  refine (H2.out _ k0.i1).mono ?_; rintro e w1 ⟨⟨v, rfl⟩, g1⟩
  have k := k0.rd g1 (by simp <;> omega)
  clear g1 k0
  obtain ⟨b0, b1⟩ := k.i3.c2
  go_wp2_with fail
  refine (H1.out _).mono ?_; rintro e w2 ⟨rfl, B2⟩
  have k := k.below B2
  clear B2 b0 b1
  obtain ⟨c0, c1⟩ := k.i2.c2
  obtain ⟨f0, f1⟩ := k.i2.f2
  go_wp2_with fail
  have kk := k.swap.set2 (v0 := .string ⟨ds1.toArray⟩) (v1 := .int .i64 (q1.err : Int)) (by simp <;> omega) (.inr hgn)
  obtain ⟨y0, y1⟩ := kk.i1.c2
  refine bodyPost_ret (v := .tuple #[.bool true, .agg #[.string ⟨ds1.toArray⟩, .int .i64 (q1.err : Int)]]) (by simp [results, Try.results36, go_sem, y0, y1]) rfl ⟨rfl, kk.i2, kk.gw⟩

set_option linter.unusedSimpArgs false in
set_option maxRecDepth 100000 in
set_option maxHeartbeats 4000000 in
theorem asked_5 (g : Nat) (q : Rd) (d n : Nat) (hd : 5 ≤ d) (m : Int) (w : World) (h : RdAt w g q) (hg : g < w.heap.size) :
    Calls Try.prog 36 #[.pointer (some ⟨g, 0, none⟩), drV q.doc, .agg #[.int .u8 (d : Int), .int .u64 (n : Int), .int .i64 m]] w fun e w' => AskRet w g q.end_ e w' := by
  have h1 := docEnd_any q.doc
  have k0 := kr_ask4 g q w h (drC q.doc) #[.int .u8 (d : Int), .int .u64 (n : Int), .int .i64 m]
  have h2 := fun W hW => end_any g q W hW
  rw [doc_end] at h1
  obtain ⟨ds, e1, _⟩ := doc_of q
  obtain ⟨ds1, e2, _⟩ := doc_of q.end_
  generalize q.end_ = q1 at *
  unfold AskRet
  rw [e1] at h1 k0 ⊢
  rw [e2] at h1 ⊢
  have H1 := Lib.hid h1
  have H2 := Lib.hid h2
  clear h1 h2 e1 e2 h
  unfold DocRet drV drC at H1
  unfold EndRet at H2
  unfold drV drC at *
  simp only at H1 k0
  have hgn : w.heap.size ≤ w.heap.size + 2 := by omega
  have d0 : ((d : Int) == 0) = false := beq_eq_false_iff_ne.2 (by omega)
  have d1 : ((d : Int) == 1) = false := beq_eq_false_iff_ne.2 (by omega)
  have d2 : ((d : Int) == 2) = false := beq_eq_false_iff_ne.2 (by omega)
  have d3 : ((d : Int) == 3) = false := beq_eq_false_iff_ne.2 (by omega)
  have d4 : ((d : Int) == 4) = false := beq_eq_false_iff_ne.2 (by omega)
  go_enter Try.func36, Try.ntmps36
  go_wp2_with fail
  refine (H1.out _).mono ?_; rintro e w1 ⟨rfl, B1⟩
  have k := k0.below B1
  have hz := k.i2.lt
  simp only at hz
  have k := (k.new 59 #[.string ⟨ds1.toArray⟩, .int .i64 (q1.err : Int)]).swap
  clear B1 k0
  go_wp2_with fail
  generalize w1.alloc (.cells #[.string ⟨ds1.toArray⟩, .int .i64 (q1.err : Int)] 59) = w2 at *
  go_region_held3 (fun W : World => W.cell? ⟨w1.heap.size, 0, none⟩ = some (.string ⟨ds1.toArray⟩) ∧ W.cell? ⟨w1.heap.size, 1, none⟩ = some (.int .i64 (q1.err : Int)))
    (first | exact ⟨k.drew.i2.cell 0, k.drew.i2.cell 1⟩ | exact ⟨k3.i2.cell 0, k3.i2.cell 1⟩ | exact ⟨(k3.rot3.set2 (v0 := .string ⟨ds1.toArray⟩) (v1 := .int .i64 (q1.err : Int)) (by simp <;> omega) (.inr hgn)).i3.cell 0, (k3.rot3.set2 (v0 := .string ⟨ds1.toArray⟩) (v1 := .int .i64 (q1.err : Int)) (by simp <;> omega) (.inr hgn)).i3.cell 1⟩)
    (first
      | (go_at_call 31; refine (H2.out _ k.drew.i1).mono ?_; rintro e w3 ⟨rfl, g3⟩; have k3 := k.drew.rd g3 (by simp <;> omega); clear g3; obtain ⟨d0, d1⟩ := k3.i3.c2; obtain ⟨p0, p1⟩ := k3.i3.f2))
  all_goals
    go_wp2_with fail
    have kk := k3.rot3.set2 (v0 := .string ⟨ds1.toArray⟩) (v1 := .int .i64 (q1.err : Int)) (by simp <;> omega) (.inr hgn)
    have z0 := (k3.rot3.set_ (i := 0) (by simp <;> omega) (.inr hgn) (.string ⟨ds1.toArray⟩)).i1.cell 0
    obtain ⟨y0, y1⟩ := kk.i1.c2
    simp at z0
    refine bodyPost_ret (v := .tuple #[.bool true, .agg #[.string ⟨ds1.toArray⟩, .int .i64 (q1.err : Int)]]) (by simp [results, Try.results36, go_sem, y0, y1, z0]) rfl ⟨rfl, kk.i2, kk.gw⟩

/-- The reader behind an ask. -/
def askR (q : Rd) (d n : Nat) (m : Int) : Rd :=
  if d = 0 then q.num.2 else if d = 1 then q.byte.2 else if d = 2 then (q.str m).2 else if d = 3 then (q.below n).2 else if d = 4 then q.bad else q.end_
theorem asked_any (g : Nat) (q : Rd) (d n : Nat) (m : Int) (h1m : -9223372036854775808 ≤ m) (h2m : m ≤ 9223372036854775807) (hl : q.rest.length < 4611686018427387904) (w : World) (h : RdAt w g q) (hg : g < w.heap.size) :
    Calls Try.prog 36 #[.pointer (some ⟨g, 0, none⟩), drV q.doc, .agg #[.int .u8 (d : Int), .int .u64 (n : Int), .int .i64 m]] w fun e w' => AskRet w g (askR q d n m) e w' := by
  unfold askR
  by_cases h0 : d = 0
  · subst h0; exact asked_0 g q n m hl w h hg
  rw [if_neg h0]
  by_cases h1 : d = 1
  · subst h1; exact asked_1 g q n m hl w h hg
  rw [if_neg h1]
  by_cases h2 : d = 2
  · subst h2; exact asked_2 g q n m h1m h2m hl w h hg
  rw [if_neg h2]
  by_cases h3 : d = 3
  · subst h3; exact asked_3 g q n m hl w h hg
  rw [if_neg h3]
  by_cases h4 : d = 4
  · subst h4; exact asked_4 g q n m w h hg
  rw [if_neg h4]
  exact asked_5 g q d n (by omega) m w h hg
theorem ask_rest (q : Rd) (d n : Nat) (m : Int) : (askR q d n m).rest.length ≤ q.rest.length := by
  unfold askR
  split
  · exact num_rest rfl
  split
  · exact byte_rest rfl
  split
  · unfold Rd.str
    exact Nat.le_trans (take_rest rfl) (below_rest rfl)
  split
  · exact below_rest rfl
  split
  · unfold Rd.bad; rw [fail_rest]; exact Nat.le_refl _
  · unfold Rd.end_; split
    · rw [fail_rest]; exact Nat.le_refl _
    · exact Nat.le_refl _
end Go.Proofs.Ytgoppdllknimfaa.Wire
