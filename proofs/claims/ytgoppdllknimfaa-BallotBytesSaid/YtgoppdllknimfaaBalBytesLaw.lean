/- The law BallotBytes walked. Conditions: the bytes that came in can be read. -/
import Derived.Test.YtgoppdllknimfaaBalBytes
import Derived.Test.YtgoppdllknimfaaBalWakes
namespace Go.Proofs.Ytgoppdllknimfaa.Bal
open Go.RowKit Wire

theorem doc_of (r : Rd) : ∃ ds, r.doc = ⟨ds, r.err⟩ ∧ ds.length = r.left := by
  have h1 := doc_left r
  have h2 := doc_err r
  generalize r.doc = d at *
  obtain ⟨ds, de⟩ := d
  exact ⟨ds, by rw [← h2], h1⟩
theorem kg_rd {g : Nat} {t : TypeId} {cs : Array Value} {L : List (Nat × TypeId × Array Value)} {w W W' : World} {r : Rd} (k : Kg ((g, t, cs) :: L) w W) (h : RdGo W g r W') (hne : ∀ p ∈ L, p.1 ≠ g) (hg : w.heap.size ≤ g) : Kg ((g, 80, rdC r) :: L) w W' :=
  ((k.tail).grown h.2 (fun o ho => by cases ho; exact ⟨hg, hne⟩)).cons h.1
set_option maxRecDepth 100000 in
set_option maxHeartbeats 4000000 in
theorem bytes_any (b : B) (hn : b.n < 18446744073709551616) (hb8 : b.r < 256) (l s : List UInt8) (hl : l.length ≤ 9223372036854775807) (hs : s.length ≤ 9223372036854775807) (A : Option Addr) (c : Nat) (w : World) (hr : Reads w w.heap.size 1 A l.length (bv l)) :
    Calls Try.prog 12 #[bV b, .slice A l.length c, .string ⟨s.toArray⟩] w fun e w' => e = .returned (.bool true) ∧ Below w.heap.size w w' := by
  have hsz := size_str s
  have k := (Kg.refl w).new 25 (bC b)
  by_cases hl2 : 100 < l.length
  · unfold bV bC at *
    go_enter Try.func12, Try.ntmps12
    go_wp2_with fail
    refine (wakes7_any _).mono ?_; rintro e w1 ⟨rfl, B1⟩
    have k := k.below B1
    go_wp2
    go_ret
    exact ⟨rfl, k.bw⟩
  by_cases hs2 : 100 < s.length
  · unfold bV bC at *
    go_enter Try.func12, Try.ntmps12
    go_wp2_with fail
    refine (wakes7_any _).mono ?_; rintro e w1 ⟨rfl, B1⟩
    have k := k.below B1
    go_wp2
    go_ret
    exact ⟨rfl, k.bw⟩
  have hb0 : Below w.heap.size w (w.alloc (.cells (bC b) 25)) := below_1 w _
  have hr0 := hr.below hb0
  have hcv := conv_str Try.underlying37 Try.underlying5 Try.underlying9 c hr0
  have HR := Lib.hid hr
  clear hr hr0
  obtain ⟨i0, hi, hz0, hz1, hz2⟩ := info_parts info_u8
  obtain ⟨p, hp⟩ : ∃ p, takeB ⟨0, s⟩ = p := ⟨_, rfl⟩
  have hT : ∀ (W : World) (g : Nat), RdAt W g ⟨0, s⟩ → Calls Try.prog 42 #[.pointer (some ⟨g, 0, none⟩)] W fun e w' => BalRet W g p e w' := fun W g h => by
    rw [← hp]
    obtain ⟨n1, r1, e1⟩ : ∃ n1 r1, Rd.num ⟨0, s⟩ = (n1, r1) := ⟨_, _, rfl⟩
    obtain ⟨n2, r2, e2⟩ : ∃ n2 r2, r1.byte = (n2, r2) := ⟨_, _, rfl⟩
    have hls : s.length < 4611686018427387904 := by omega
    exact take_bal g ⟨0, s⟩ r1 r2 n1 n2 hls e1 (Nat.lt_of_le_of_lt (num_rest e1) hls) e2 W h
  have hD := docTake_any ⟨s, 0⟩ (by show s.length < _; omega)
  have ed : docTakeB ⟨s, 0⟩ = (p.1, p.2.doc) := by rw [← hp]; exact doc_take ⟨0, s⟩
  rw [ed] at hD
  obtain ⟨⟨pn, pc⟩, q⟩ := p
  obtain ⟨ds, eq1, eq2⟩ := doc_of q
  simp only at hD
  rw [eq1] at hD
  have hL : ∀ (W : World) (g : Nat), RdAt W g q → Calls Try.prog 35 #[.pointer (some ⟨g, 0, none⟩)] W fun e w' => e = .returned (.int .i64 (ds.length : Int)) ∧ W = w' := fun W g h => by
    rw [eq2]
    exact left_any g q W h
  have HT := Lib.hid hT
  have HD := Lib.hid hD
  have HL := Lib.hid hL
  have hds := size_str ds
  clear hT hD hL ed hp eq1 eq2
  unfold DocRet bV bC drV drC at HD
  unfold BalRet bV bC at HT
  simp only at HD HT
  have HBy := Lib.hid (refBytes_any b hn hb8)
  have ad := add_str l (balB b)
  have ln1 : (balB b).length ≤ 10 := by unfold balB; rw [List.length_append, List.length_singleton]; have := (numB_length b.n hn).1; omega
  have lt1 : ¬ (9223372036854775807 < l.length + (balB b).length) := by omega
  unfold bV at *
  unfold bC at *
  go_enter Try.func12, Try.ntmps12
  go_wp2_with fail
  have k := k.drew
  go_region_held_law (fun W : World => W.cell? ⟨w.heap.size, 0, none⟩ = some (.int .u64 (b.n : Int)) ∧ W.cell? ⟨w.heap.size, 1, none⟩ = some (.int .u8 (b.r : Int))) (exact ⟨k.i1.cell 0, k.i1.cell 1⟩)
    (first
      | (refine step_append_any _ (by rfl) (.const (.slice none 0 0)) (.tmp 23) _ (by rfl) w.heap.size 5 i0 (.int .u8 0) 1 1 Try.underlying37 hi hz0 hz1 hz2 rfl (by omega) (.slice none 0 0) 0 [] (by rfl) ⟨by simp, .inl ⟨rfl, rfl⟩⟩ w.heap.size A l.length c (bv l) (by rfl) (HR.out.below k.bw) (bv_one _) (by simp only [maxLen]; omega) (by omega) k.bw.size ?_; intro v1 w1 hown1 hg1 hat1; simp only [Nat.zero_add, List.nil_append] at hown1; have k := k.below ((Below.refl _ _).grown hg1 (Nat.le_refl _) (by simp [Value.ownBlock])); obtain ⟨A1, c1, rfl, r1⟩ := own_slice1 hown1; clear hown1 hg1 hat1)
      | (go_simp; go_at_call 40; refine (put_any A1 c1 l b hn hb8 (by omega) _ r1).mono ?_; rintro e w2 ⟨A2, c2, rfl, r2, B2⟩; rw [List.length_append] at r2; have k := k.below B2; clear B2)
      | (refine upon_conv Try.underlying37 Try.underlying5 Try.underlying9 r2 ?_)
      | (refine upon_conv Try.underlying37 Try.underlying5 Try.underlying9 (r2.below B3) ?_)
      | (go_simp; go_at_call 41; refine (HBy.out _).mono ?_; rintro e w3 ⟨rfl, B3⟩; have k := k.below B3; have B03 := k.bw.size))
  all_goals
    go_wp2_with fail
    refine (Wire.of_any s _).mono ?_; rintro e w4 ⟨rfl, rfl⟩
    have k := k.tail.new 80 (rdC ⟨0, s⟩)
    have hg := k.bw.size
    have hg0 : w.heap.size ≤ w3.heap.size := B03
    generalize w3.alloc (.cells (rdC ⟨0, s⟩) 80) = w4 at *
    generalize w3.heap.size = g at *
    go_wp2_with fail
    refine (HT.out _ g k.i1).mono ?_; rintro e w5 ⟨rfl, g5⟩
    have k := (kg_rd k g5 (by simp) hg0).new 25 #[.int .u64 (pn : Int), .int .u8 (pc : Int)]
    clear g5
    go_wp2_with fail
    refine (HD.out _).mono ?_; rintro e w6 ⟨rfl, B6⟩
    have k := k.below B6
    have k := k.new 25 #[.int .u64 (pn : Int), .int .u8 (pc : Int)]
    have k := k.new 59 #[.string ⟨ds.toArray⟩, .int .i64 (q.err : Int)]
    have e1 : (w6.alloc (.cells #[.int .u64 (pn : Int), .int .u8 (pc : Int)] 25)).heap.size = w6.heap.size + 1 := by simp
    rw [e1] at k
    clear e1
    go_wp2_with fail
    have n1 := k.i3.lt
    have n2 := k.i4.lt
    simp only [World.size_alloc] at n1 n2
    have k := k.drew
    clear HBy HT HD
    go_region_held3 (fun W : World => (W.cell? ⟨w5.heap.size, 0, none⟩ = some (.int .u64 (pn : Int)) ∧ W.cell? ⟨w5.heap.size, 1, none⟩ = some (.int .u8 (pc : Int))) ∧ (W.cell? ⟨w6.heap.size, 0, none⟩ = some (.int .u64 (pn : Int)) ∧ W.cell? ⟨w6.heap.size, 1, none⟩ = some (.int .u8 (pc : Int))) ∧ W.cell? ⟨w6.heap.size + 1, 0, none⟩ = some (.string ⟨ds.toArray⟩) ∧ W.cell? ⟨w6.heap.size + 1, 1, none⟩ = some (.int .i64 (q.err : Int)))
      (exact ⟨⟨k.i3.cell 0, k.i3.cell 1⟩, ⟨k.i2.cell 0, k.i2.cell 1⟩, k.i1.cell 0, k.i1.cell 1⟩)
      (first
        | (go_at_call 33; refine (err_any g q _ k.i4).mono ?_; rintro e wx ⟨rfl, rfl⟩)
        | (go_at_call 35; refine (HL.out _ g k.i4).mono ?_; rintro e wx ⟨rfl, rfl⟩)
        | (go_at_call 42; refine (take_nil _).mono ?_; rintro e w7 ⟨rfl, B7⟩; have k := k.below B7; clear B7)
        | (go_at_call 14; refine (wakes7_any _).mono ?_; rintro e w8 ⟨rfl, B8⟩; have k := k.below B8; clear B8))
    all_goals
      go_wp2
      go_ret
      exact ⟨rfl, k.bw⟩
end Go.Proofs.Ytgoppdllknimfaa.Bal
