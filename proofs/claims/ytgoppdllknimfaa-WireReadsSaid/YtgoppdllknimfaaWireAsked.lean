/- One ask of a reader and of the document's, walked: they answer alike. Conditions: the reader's bytes are fewer than 2^62. -/
import Derived.Test.YtgoppdllknimfaaWireDocStrW
import Derived.Test.YtgoppdllknimfaaKeepR
namespace Go.Proofs.Ytgoppdllknimfaa.Wire
open Go.RowKit

theorem doc_of (r : Rd) : ∃ ds, r.doc = ⟨ds, r.err⟩ ∧ ds.length = r.left := by
  have h1 := doc_left r
  have h2 := doc_err r
  generalize r.doc = d at *
  obtain ⟨ds, de⟩ := d
  exact ⟨ds, by rw [← h2], h1⟩
theorem doc_short (r : Rd) : (r.doc).s.length ≤ r.rest.length := by
  rw [doc_left]; unfold Rd.left; split
  · omega
  · exact Nat.le_refl _
/-- What 'asked' answers: alike, and the document's reader behind it; the program's reader is the same one. -/
def AskRet (w : World) (g : Nat) (q : Rd) (e : Ending) (w' : World) : Prop := e = .returned (.tuple #[.bool true, drV q.doc]) ∧ RdGo w g q w'

theorem kr_ask (g : Nat) (q : Rd) (w : World) (h : RdAt w g q) (c : Array Value) (a : Array Value) : Kr g [(g, 80, rdC q), (w.heap.size + 2, 59, #[.string ⟨#[]⟩, .int .i64 0]), (w.heap.size + 1, 63, a)] w
    (((w.alloc (.cells c 59)).alloc (.cells a 63)).alloc (.cells #[.string ⟨#[]⟩, .int .i64 0] 59)) := by
  have k := ((((Kr.refl g w).cons (a := (g, 80, rdC q)) h).alloc (.cells c 59)).new 63 a).new 59 #[.string ⟨#[]⟩, .int .i64 0]
  have e0 : (w.alloc (.cells c 59)).heap.size = w.heap.size + 1 := by simp
  have e1 : ((w.alloc (.cells c 59)).alloc (.cells a 63)).heap.size = w.heap.size + 2 := by simp
  rw [e1, e0] at k
  exact k.rot3

set_option linter.unusedSimpArgs false in
set_option maxRecDepth 100000 in
set_option maxHeartbeats 4000000 in
theorem asked_0 (g : Nat) (q : Rd) (n : Nat) (m : Int) (hl : q.rest.length < 4611686018427387904) (w : World) (h : RdAt w g q) (hg : g < w.heap.size) :
    Calls Try.prog 36 #[.pointer (some ⟨g, 0, none⟩), drV q.doc, .agg #[.int .u8 0, .int .u64 (n : Int), .int .i64 m]] w fun e w' => AskRet w g q.num.2 e w' := by
  have hls := Nat.lt_of_le_of_lt (doc_short q) hl
  have h1 := docNum_any q.doc hls
  have k0 := kr_ask g q w h (drC q.doc) #[.int .u8 0, .int .u64 (n : Int), .int .i64 m]
  obtain ⟨v, q1, hp⟩ : ∃ v q1, q.num = (v, q1) := ⟨_, _, rfl⟩
  have h2 : ∀ W : World, RdAt W g q → Calls Try.prog 30 #[.pointer (some ⟨g, 0, none⟩)] W fun e w' => NumRet W g (v, q1) e w' := fun W hW => by
    rw [← hp]
    exact num_any g q hl W hW
  rw [doc_num] at h1
  rw [hp] at h1 ⊢
  obtain ⟨ds, e1, _⟩ := doc_of q
  obtain ⟨ds1, e2, _⟩ := doc_of q1
  simp only at h1 ⊢
  unfold AskRet
  rw [e1] at h1 k0 ⊢
  rw [e2] at h1 ⊢
  have H1 := Lib.hid h1
  have H2 := Lib.hid h2
  clear h1 h2 hp e1 e2 h hl hls
  unfold DocRet drV drC at H1
  unfold NumRet at H2
  unfold drV drC at *
  simp only at H1 H2 k0
  go_enter Try.func36, Try.ntmps36
  go_wp2_with fail
  refine (H1.out _).mono ?_; rintro e w1 ⟨rfl, B1⟩
  have k := k0.below B1
  have hz := k.i2.lt
  simp only at hz
  have k := (k.new 59 #[.string ⟨ds1.toArray⟩, .int .i64 (q1.err : Int)]).swap
  clear B1 k0
  go_wp2_with fail
  generalize w1.alloc (.cells #[.string ⟨ds1.toArray⟩, .int .i64 (q1.err : Int)] 59) = w2 at *
  have hgn : w.heap.size ≤ w.heap.size + 2 := by omega
  obtain ⟨c0, c1⟩ := k.i3.c2
  obtain ⟨f0, f1⟩ := k.i3.f2
  simp only at c0 c1 f0 f1
  go_region_held3 (fun W : World => W.cell? ⟨w1.heap.size, 0, none⟩ = some (.string ⟨ds1.toArray⟩) ∧ W.cell? ⟨w1.heap.size, 1, none⟩ = some (.int .i64 (q1.err : Int)))
    (first | exact ⟨(k.drew).i2.cell 0, (k.drew).i2.cell 1⟩ | exact ⟨(k3).i2.cell 0, (k3).i2.cell 1⟩ | exact ⟨((k3.rot3.set2 (v0 := .string ⟨ds1.toArray⟩) (v1 := .int .i64 (q1.err : Int)) (by simp <;> omega) (.inr hgn))).i3.cell 0, ((k3.rot3.set2 (v0 := .string ⟨ds1.toArray⟩) (v1 := .int .i64 (q1.err : Int)) (by simp <;> omega) (.inr hgn))).i3.cell 1⟩)
    (first
      | (go_at_call 30; refine (H2.out _ k.drew.i1).mono ?_; rintro e w3 ⟨rfl, g3⟩; have k3 := k.drew.rd g3 (by simp <;> omega); clear g3; obtain ⟨d0, d1⟩ := k3.i3.c2; obtain ⟨p0, p1⟩ := k3.i3.f2))
  all_goals
    go_wp2_with fail
    have kk := k3.rot3.set2 (v0 := .string ⟨ds1.toArray⟩) (v1 := .int .i64 (q1.err : Int)) (by simp <;> omega) (.inr hgn)
    have z0 := (k3.rot3.set_ (i := 0) (by simp <;> omega) (.inr hgn) (.string ⟨ds1.toArray⟩)).i1.cell 0
    obtain ⟨y0, y1⟩ := kk.i1.c2
    simp at z0
    refine bodyPost_ret (v := .tuple #[.bool true, .agg #[.string ⟨ds1.toArray⟩, .int .i64 (q1.err : Int)]]) (by simp [results, Try.results36, go_sem, y0, y1, z0]) rfl ⟨rfl, kk.i2, kk.gw⟩

set_option linter.unusedSimpArgs false in
set_option maxRecDepth 100000 in
set_option maxHeartbeats 4000000 in
theorem asked_1 (g : Nat) (q : Rd) (n : Nat) (m : Int) (hl : q.rest.length < 4611686018427387904) (w : World) (h : RdAt w g q) (hg : g < w.heap.size) :
    Calls Try.prog 36 #[.pointer (some ⟨g, 0, none⟩), drV q.doc, .agg #[.int .u8 1, .int .u64 (n : Int), .int .i64 m]] w fun e w' => AskRet w g q.byte.2 e w' := by
  have hls := Nat.lt_of_le_of_lt (doc_short q) hl
  have h1 := docByte_any q.doc hls
  have k0 := kr_ask g q w h (drC q.doc) #[.int .u8 1, .int .u64 (n : Int), .int .i64 m]
  obtain ⟨v, q1, hp⟩ : ∃ v q1, q.byte = (v, q1) := ⟨_, _, rfl⟩
  have h2 : ∀ W : World, RdAt W g q → Calls Try.prog 39 #[.pointer (some ⟨g, 0, none⟩)] W fun e w' => ByteRet W g (v, q1) e w' := fun W hW => by
    rw [← hp]
    exact byte_any g q hl W hW
  rw [doc_byte] at h1
  rw [hp] at h1 ⊢
  obtain ⟨ds, e1, _⟩ := doc_of q
  obtain ⟨ds1, e2, _⟩ := doc_of q1
  simp only at h1 ⊢
  unfold AskRet
  rw [e1] at h1 k0 ⊢
  rw [e2] at h1 ⊢
  have H1 := Lib.hid h1
  have H2 := Lib.hid h2
  clear h1 h2 hp e1 e2 h hl hls
  unfold DocRet drV drC at H1
  unfold ByteRet at H2
  unfold drV drC at *
  simp only at H1 H2 k0
  go_enter Try.func36, Try.ntmps36
  go_wp2_with fail
  refine (H1.out _).mono ?_; rintro e w1 ⟨rfl, B1⟩
  have k := k0.below B1
  have hz := k.i2.lt
  simp only at hz
  have k := (k.new 59 #[.string ⟨ds1.toArray⟩, .int .i64 (q1.err : Int)]).swap
  clear B1 k0
  go_wp2_with fail
  generalize w1.alloc (.cells #[.string ⟨ds1.toArray⟩, .int .i64 (q1.err : Int)] 59) = w2 at *
  have hgn : w.heap.size ≤ w.heap.size + 2 := by omega
  obtain ⟨c0, c1⟩ := k.i3.c2
  obtain ⟨f0, f1⟩ := k.i3.f2
  simp only at c0 c1 f0 f1
  go_region_held3 (fun W : World => W.cell? ⟨w1.heap.size, 0, none⟩ = some (.string ⟨ds1.toArray⟩) ∧ W.cell? ⟨w1.heap.size, 1, none⟩ = some (.int .i64 (q1.err : Int)))
    (first | exact ⟨(k.drew).i2.cell 0, (k.drew).i2.cell 1⟩ | exact ⟨(k3).i2.cell 0, (k3).i2.cell 1⟩ | exact ⟨((k3.rot3.set2 (v0 := .string ⟨ds1.toArray⟩) (v1 := .int .i64 (q1.err : Int)) (by simp <;> omega) (.inr hgn))).i3.cell 0, ((k3.rot3.set2 (v0 := .string ⟨ds1.toArray⟩) (v1 := .int .i64 (q1.err : Int)) (by simp <;> omega) (.inr hgn))).i3.cell 1⟩)
    (first
      | (go_at_call 39; refine (H2.out _ k.drew.i1).mono ?_; rintro e w3 ⟨rfl, g3⟩; have k3 := k.drew.rd g3 (by simp <;> omega); clear g3; obtain ⟨d0, d1⟩ := k3.i3.c2; obtain ⟨p0, p1⟩ := k3.i3.f2))
  all_goals
    go_wp2_with fail
    have kk := k3.rot3.set2 (v0 := .string ⟨ds1.toArray⟩) (v1 := .int .i64 (q1.err : Int)) (by simp <;> omega) (.inr hgn)
    have z0 := (k3.rot3.set_ (i := 0) (by simp <;> omega) (.inr hgn) (.string ⟨ds1.toArray⟩)).i1.cell 0
    obtain ⟨y0, y1⟩ := kk.i1.c2
    simp at z0
    refine bodyPost_ret (v := .tuple #[.bool true, .agg #[.string ⟨ds1.toArray⟩, .int .i64 (q1.err : Int)]]) (by simp [results, Try.results36, go_sem, y0, y1, z0]) rfl ⟨rfl, kk.i2, kk.gw⟩

set_option linter.unusedSimpArgs false in
set_option maxRecDepth 100000 in
set_option maxHeartbeats 4000000 in
theorem asked_2 (g : Nat) (q : Rd) (n : Nat) (m : Int) (h1m : -9223372036854775808 ≤ m) (h2m : m ≤ 9223372036854775807) (hl : q.rest.length < 4611686018427387904) (w : World) (h : RdAt w g q) (hg : g < w.heap.size) :
    Calls Try.prog 36 #[.pointer (some ⟨g, 0, none⟩), drV q.doc, .agg #[.int .u8 2, .int .u64 (n : Int), .int .i64 m]] w fun e w' => AskRet w g (q.str m).2 e w' := by
  have hls := Nat.lt_of_le_of_lt (doc_short q) hl
  have h1 := docStr_any q.doc m h1m h2m hls (by rw [doc_num]; exact Nat.lt_of_le_of_lt (doc_short _) (Nat.lt_of_le_of_lt (num_rest rfl) hl))
  have k0 := kr_ask g q w h (drC q.doc) #[.int .u8 2, .int .u64 (n : Int), .int .i64 m]
  obtain ⟨v, q1, hp⟩ : ∃ v q1, q.str m = (v, q1) := ⟨_, _, rfl⟩
  have h2 : ∀ W : World, RdAt W g q → Calls Try.prog 34 #[.pointer (some ⟨g, 0, none⟩), .int .i64 m] W fun e w' => StrRet W g (v, q1) e w' := fun W hW => by
    rw [← hp]
    exact str_any g q m h1m h2m hl W hW
  rw [doc_str] at h1
  rw [hp] at h1 ⊢
  obtain ⟨ds, e1, _⟩ := doc_of q
  obtain ⟨ds1, e2, _⟩ := doc_of q1
  simp only at h1 ⊢
  unfold AskRet
  rw [e1] at h1 k0 ⊢
  rw [e2] at h1 ⊢
  have H1 := Lib.hid h1
  have H2 := Lib.hid h2
  clear h1 h2 hp e1 e2 h hl hls
  unfold DocRet drV drC at H1
  unfold StrRet at H2
  unfold drV drC at *
  simp only at H1 H2 k0
  go_enter Try.func36, Try.ntmps36
  go_wp2_with fail
  refine (H1.out _).mono ?_; rintro e w1 ⟨rfl, B1⟩
  have k := k0.below B1
  have hz := k.i2.lt
  simp only at hz
  have k := (k.new 59 #[.string ⟨ds1.toArray⟩, .int .i64 (q1.err : Int)]).swap
  clear B1 k0
  go_wp2_with fail
  generalize w1.alloc (.cells #[.string ⟨ds1.toArray⟩, .int .i64 (q1.err : Int)] 59) = w2 at *
  have hgn : w.heap.size ≤ w.heap.size + 2 := by omega
  obtain ⟨c0, c1⟩ := k.i3.c2
  obtain ⟨f0, f1⟩ := k.i3.f2
  simp only at c0 c1 f0 f1
  go_region_held3 (fun W : World => W.cell? ⟨w1.heap.size, 0, none⟩ = some (.string ⟨ds1.toArray⟩) ∧ W.cell? ⟨w1.heap.size, 1, none⟩ = some (.int .i64 (q1.err : Int)) ∧ W.cell? ⟨w.heap.size + 1, 2, none⟩ = some (.int .i64 m))
    (first | exact ⟨(k.drew).i2.cell 0, (k.drew).i2.cell 1, (k.drew).i4.cell 2⟩ | exact ⟨(k3).i2.cell 0, (k3).i2.cell 1, (k3).i4.cell 2⟩ | exact ⟨((k3.rot3.set2 (v0 := .string ⟨ds1.toArray⟩) (v1 := .int .i64 (q1.err : Int)) (by simp <;> omega) (.inr hgn))).i3.cell 0, ((k3.rot3.set2 (v0 := .string ⟨ds1.toArray⟩) (v1 := .int .i64 (q1.err : Int)) (by simp <;> omega) (.inr hgn))).i3.cell 1, ((k3.rot3.set2 (v0 := .string ⟨ds1.toArray⟩) (v1 := .int .i64 (q1.err : Int)) (by simp <;> omega) (.inr hgn))).i4.cell 2⟩)
    (first
      | (go_at_call 34; refine (H2.out _ k.drew.i1).mono ?_; rintro e w3 ⟨rfl, g3⟩; have k3 := k.drew.rd g3 (by simp <;> omega); clear g3; obtain ⟨d0, d1⟩ := k3.i3.c2; obtain ⟨p0, p1⟩ := k3.i3.f2))
  all_goals
    go_wp2_with fail
    have kk := k3.rot3.set2 (v0 := .string ⟨ds1.toArray⟩) (v1 := .int .i64 (q1.err : Int)) (by simp <;> omega) (.inr hgn)
    have z0 := (k3.rot3.set_ (i := 0) (by simp <;> omega) (.inr hgn) (.string ⟨ds1.toArray⟩)).i1.cell 0
    obtain ⟨y0, y1⟩ := kk.i1.c2
    simp at z0
    refine bodyPost_ret (v := .tuple #[.bool true, .agg #[.string ⟨ds1.toArray⟩, .int .i64 (q1.err : Int)]]) (by simp [results, Try.results36, go_sem, y0, y1, z0]) rfl ⟨rfl, kk.i2, kk.gw⟩

set_option linter.unusedSimpArgs false in
set_option maxRecDepth 100000 in
set_option maxHeartbeats 4000000 in
theorem asked_3 (g : Nat) (q : Rd) (n : Nat) (m : Int) (hl : q.rest.length < 4611686018427387904) (w : World) (h : RdAt w g q) (hg : g < w.heap.size) :
    Calls Try.prog 36 #[.pointer (some ⟨g, 0, none⟩), drV q.doc, .agg #[.int .u8 3, .int .u64 (n : Int), .int .i64 m]] w fun e w' => AskRet w g (q.below n).2 e w' := by
  have hls := Nat.lt_of_le_of_lt (doc_short q) hl
  have h1 := docBelow_any q.doc n hls
  have k0 := kr_ask g q w h (drC q.doc) #[.int .u8 3, .int .u64 (n : Int), .int .i64 m]
  obtain ⟨v, q1, hp⟩ : ∃ v q1, q.below n = (v, q1) := ⟨_, _, rfl⟩
  have h2 : ∀ W : World, RdAt W g q → Calls Try.prog 32 #[.pointer (some ⟨g, 0, none⟩), .int .u64 (n : Int)] W fun e w' => NumRet W g (v, q1) e w' := fun W hW => by
    rw [← hp]
    exact Below_any g q n hl W hW
  rw [doc_below] at h1
  rw [hp] at h1 ⊢
  obtain ⟨ds, e1, _⟩ := doc_of q
  obtain ⟨ds1, e2, _⟩ := doc_of q1
  simp only at h1 ⊢
  unfold AskRet
  rw [e1] at h1 k0 ⊢
  rw [e2] at h1 ⊢
  have H1 := Lib.hid h1
  have H2 := Lib.hid h2
  clear h1 h2 hp e1 e2 h hl hls
  unfold DocRet drV drC at H1
  unfold NumRet at H2
  unfold drV drC at *
  simp only at H1 H2 k0
  go_enter Try.func36, Try.ntmps36
  go_wp2_with fail
  refine (H1.out _).mono ?_; rintro e w1 ⟨rfl, B1⟩
  have k := k0.below B1
  have hz := k.i2.lt
  simp only at hz
  have k := (k.new 59 #[.string ⟨ds1.toArray⟩, .int .i64 (q1.err : Int)]).swap
  clear B1 k0
  go_wp2_with fail
  generalize w1.alloc (.cells #[.string ⟨ds1.toArray⟩, .int .i64 (q1.err : Int)] 59) = w2 at *
  have hgn : w.heap.size ≤ w.heap.size + 2 := by omega
  obtain ⟨c0, c1⟩ := k.i3.c2
  obtain ⟨f0, f1⟩ := k.i3.f2
  simp only at c0 c1 f0 f1
  go_region_held3 (fun W : World => W.cell? ⟨w1.heap.size, 0, none⟩ = some (.string ⟨ds1.toArray⟩) ∧ W.cell? ⟨w1.heap.size, 1, none⟩ = some (.int .i64 (q1.err : Int)) ∧ W.cell? ⟨w.heap.size + 1, 1, none⟩ = some (.int .u64 (n : Int)))
    (first | exact ⟨(k.drew).i2.cell 0, (k.drew).i2.cell 1, (k.drew).i4.cell 1⟩ | exact ⟨(k3).i2.cell 0, (k3).i2.cell 1, (k3).i4.cell 1⟩ | exact ⟨((k3.rot3.set2 (v0 := .string ⟨ds1.toArray⟩) (v1 := .int .i64 (q1.err : Int)) (by simp <;> omega) (.inr hgn))).i3.cell 0, ((k3.rot3.set2 (v0 := .string ⟨ds1.toArray⟩) (v1 := .int .i64 (q1.err : Int)) (by simp <;> omega) (.inr hgn))).i3.cell 1, ((k3.rot3.set2 (v0 := .string ⟨ds1.toArray⟩) (v1 := .int .i64 (q1.err : Int)) (by simp <;> omega) (.inr hgn))).i4.cell 1⟩)
    (first
      | (go_at_call 32; refine (H2.out _ k.drew.i1).mono ?_; rintro e w3 ⟨rfl, g3⟩; have k3 := k.drew.rd g3 (by simp <;> omega); clear g3; obtain ⟨d0, d1⟩ := k3.i3.c2; obtain ⟨p0, p1⟩ := k3.i3.f2))
  all_goals
    go_wp2_with fail
    have kk := k3.rot3.set2 (v0 := .string ⟨ds1.toArray⟩) (v1 := .int .i64 (q1.err : Int)) (by simp <;> omega) (.inr hgn)
    have z0 := (k3.rot3.set_ (i := 0) (by simp <;> omega) (.inr hgn) (.string ⟨ds1.toArray⟩)).i1.cell 0
    obtain ⟨y0, y1⟩ := kk.i1.c2
    simp at z0
    refine bodyPost_ret (v := .tuple #[.bool true, .agg #[.string ⟨ds1.toArray⟩, .int .i64 (q1.err : Int)]]) (by simp [results, Try.results36, go_sem, y0, y1, z0]) rfl ⟨rfl, kk.i2, kk.gw⟩
end Go.Proofs.Ytgoppdllknimfaa.Wire
