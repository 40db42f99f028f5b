/- A table as bytes, walked: Put. Conditions: the bytes that came in can be read; texts are of at most 1,000 bytes. -/
import Derived.Test.YtgbnaifjdfoahaaSessKept
import Derived.Test.YtgbnaifjdfoahaaWireConv
import Derived.Deep.RegionHeld3
import Derived.Deep.RegionHeldLaw
namespace Go.Proofs.Ytgbnaifjdfoahaa.Sess
open Go.RowKit Wire

theorem own_drew {w : World} {base : Nat} {e : TypeId} {size : Nat} {v : Value} {n : Nat} {xs : List Value} (h : w.ownsRow base e size v n xs) : w.drew.ownsRow base e size v n xs := h
/-- A client's part of a table's bytes. -/
def entB (e : Ent) : List UInt8 := numB e.seq ++ if e.seq = 0 then [] else UInt8.ofNat e.code :: strB e.text.data.toList
def tabTo (t : Nat → Ent) (k : Nat) : List UInt8 := (List.range k).flatMap fun i => entB (t i)
def tabB (t : Nat → Ent) : List UInt8 := tabTo t 4
theorem tabTo_succ (t : Nat → Ent) (k : Nat) : tabTo t (k + 1) = tabTo t k ++ entB (t k) := by unfold tabTo; rw [List.range_succ, List.flatMap_append]; simp
def Ent.Ok (e : Ent) : Prop := e.seq < 4294967296 ∧ e.code < 256 ∧ e.text.size ≤ 1000
theorem entB_len (e : Ent) (h : e.Ok) : (entB e).length ≤ 1019 := by
  obtain ⟨h1, h2, h3⟩ := h
  have a := (numB_length e.seq (by omega)).1
  unfold entB
  rw [List.length_append]
  split
  · simp only [List.length_nil]; omega
  · have hs : e.text.data.toList.length = e.text.size := by rw [Array.length_toList]; rfl
    unfold strB
    rw [List.length_cons, List.length_append]
    have b := (numB_length e.text.data.toList.length (by omega)).1
    omega
theorem index_tab (t : Nat → Ent) (k : Nat) (h : k < 4) (w : World) : (Instr.index 31 (.agg (tabC t)) (.int .i64 (k : Int))).run Try.prog w = .ok (.agg #[.int .u32 ((t k).seq : Int), .int .u8 ((t k).code : Int), .string (t k).text]) w := by
  rcases (show k = 0 ∨ k = 1 ∨ k = 2 ∨ k = 3 by omega) with rfl | rfl | rfl | rfl
  · kernel_rfl
  · kernel_rfl
  · kernel_rfl
  · kernel_rfl
def PutTab (t : Nat → Ent) (l : List UInt8) (w : World) (gk : Nat) (b i : Value) (wr : World) : Prop :=
  ∃ (k : Nat) (B : List UInt8) (A : Option Addr) (c : Nat), k + gk = 4 ∧ i = .int .i64 (k : Int) ∧ b = .slice A B.length c ∧ Hid (B = l ++ tabTo t k) ∧ B.length ≤ l.length + 1019 * k ∧ Reads wr wr.heap.size 1 A B.length (bv B) ∧ Below w.heap.size w wr
set_option linter.unusedSimpArgs false in
set_option maxRecDepth 100000 in
set_option maxHeartbeats 8000000 in
theorem tabPut_any (t : Nat → Ent) (ht : ∀ c, c < 4 → (t c).Ok) (l : List UInt8) (hl : l.length ≤ 1000000) (A : Option Addr) (cap : Nat) (w : World) (h : Reads w w.heap.size 1 A l.length (bv l)) :
    Calls Try.prog 22 #[tabV t, .slice A l.length cap] w fun e w' => RetS w w' e (l ++ tabB t) := by
  obtain ⟨i0, hi, hz0, hz1, hz2⟩ := info_parts info_u8
  have hb0 := below_one w (.cells (tabC t) 31)
  have hr0 := (h.below hb0).more hb0.size
  have hix := index_tab t
  unfold tabV
  unfold tabC at *
  go_enter Try.func22, Try.ntmps22
  go_wp2_with fail
  have HIX := Lib.hid hix
  clear hix
  go_loopg [1, 8] 4 (fun gk b i wr => PutTab t l w gk b i wr)
  case atStart => exact ⟨0, l, A, cap, by omega, rfl, rfl, by show _ = _; simp [tabTo], by omega, hr0, hb0⟩
  case round =>
    clear hr0 hb0 h
    obtain ⟨k, B, A1, c1, hk, rfl, rfl, hB, hBl, hr, hbw⟩ := hrel
    by_cases h4 : k < 4
    · have hix := HIX.out k h4
      have hto := tabTo_succ t k
      obtain ⟨o1, o2, o3⟩ := ht k h4
      have hel := entB_len (t k) (ht k h4)
      generalize t k = x at hix hto o1 o2 o3 hel
      obtain ⟨xs, xk, xt⟩ := x
      obtain ⟨s, rfl⟩ : ∃ s : List UInt8, xt = ⟨s.toArray⟩ := ⟨xt.data.toList, by simp⟩
      have hss := size_str s
      simp only at hix o1 o2 o3
      unfold entB at hto hel
      simp only at hto hel
      have HTO := Lib.hid hto
      have hk4 : (k : Int) < 4 := by omega
      have x1 : (0 : Int) ≤ (xs : Int) := by omega
      have x2 : (xs : Int) < 4294967296 := by omega
      have hp := fun W hW => num_put A1 c1 B xs (by omega) (by omega) W hW
      have HP := Lib.hid hp
      have hbx := below_one wr (.cells #[.int .u32 (xs : Int), .int .u8 (xk : Int), .string ⟨s.toArray⟩] 29)
      have hrx := (hr.below hbx).more hbx.size
      clear hto hp
      by_cases h0 : xs = 0
      · rw [if_pos h0] at hel
        have hb : ((xs : Int) != 0) = false := by rw [h0]; rfl
        have H0 := Lib.hid h0
        clear h0
        go_wp2_with fail
        refine (HP.out _ hrx).mono ?_; rintro e w2 ⟨v, rfl, own, B2⟩
        have hB' : Hid (B ++ numB xs = l ++ tabTo t (k + 1)) := by show _ = _; rw [HTO.out, hB.out, if_pos H0.out]; simp
        have hl' : (B ++ numB xs).length ≤ l.length + 1019 * (k + 1) := by
          simp only [List.append_nil] at hel
          rw [List.length_append]; omega
        generalize B ++ numB xs = B' at *
        obtain ⟨A2, c2, rfl, r2⟩ := own_slice1 own
        have sx := B2.size
        simp only [World.size_alloc] at sx
        have hne : wr.heap.size < w2.heap.size := by omega
        have b0 := B2.cell (p := ⟨wr.heap.size, 0, none⟩) (by simp)
        have e0 := (Blk.new wr 29 #[.int .u32 (xs : Int), .int .u8 (xk : Int), .string ⟨s.toArray⟩]).cell 0
        have d0 := b0.trans e0
        have hbw2 := (hbw.trans (hbx.mono hbw.size)).trans (B2.mono (Nat.le_trans hbw.size hbx.size))
        simp at d0
        clear own hrx B2 b0 e0
        go_wp2_with fail
        go_roundg (4 - (k + 1))
        case measure => omega
        case rel => exact ⟨k + 1, B', A2, c2, by omega, by go_num, rfl, hB', hl', r2, hbw2⟩
      · rw [if_neg h0] at hel
        have hb : ((xs : Int) != 0) = true := by rw [bne_iff_ne]; omega
        have H0 := Lib.hid h0
        clear h0
        go_wp2_with fail
        refine (HP.out _ hrx).mono ?_; rintro e w2 ⟨v, rfl, own, B2⟩
        have hB' : Hid ((B ++ numB xs ++ [UInt8.ofNat xk]) ++ strB s = l ++ tabTo t (k + 1)) := by show _ = _; rw [HTO.out, hB.out, if_neg H0.out]; simp
        have hl' : ((B ++ numB xs ++ [UInt8.ofNat xk]) ++ strB s).length ≤ l.length + 1019 * (k + 1) := by
          simp only [List.length_append, List.length_cons, List.length_nil] at hel ⊢; omega
        have hl2 : (B ++ numB xs).length ≤ l.length + 1019 * (k + 1) := by
          simp only [List.length_append] at hl' ⊢; omega
        have hl3 : (B ++ numB xs ++ [UInt8.ofNat xk]).length ≤ 2000000 := by
          simp only [List.length_append] at hl' ⊢; omega
        generalize B ++ numB xs = B1 at *
        obtain ⟨A2, c2, rfl, r2⟩ := own_slice1 own
        have sx := B2.size
        simp only [World.size_alloc] at sx
        have hne : wr.heap.size < w2.heap.size := by omega
        have kg := ((Kg.refl wr).new 29 #[.int .u32 (xs : Int), .int .u8 (xk : Int), .string ⟨s.toArray⟩]).below B2
        have hbw2 := hbw.trans (kg.bw.mono hbw.size)
        obtain ⟨d0, d1, d2⟩ := kg.i1.c3
        simp only at d0 d1 d2
        clear hrx B2
        go_wp2_with fail
        have hq : ∀ (W : World) (A : Option Addr) (c : Nat), Reads W W.heap.size 1 A (B1.length + 1) (bv (B1 ++ [UInt8.ofNat xk])) → Calls Try.prog 54 #[.slice A (B1.length + 1) c, .string ⟨s.toArray⟩] W fun e w' => RetB W w' e ((B1 ++ [UInt8.ofNat xk]) ++ strB s) := fun W A c hW => by
          have e : B1.length + 1 = (B1 ++ [UInt8.ofNat xk]).length := by simp
          rw [e] at hW ⊢
          exact str_put A c (B1 ++ [UInt8.ofNat xk]) s (by omega) (by omega) W hW
        have HQ := Lib.hid hq
        generalize (B1 ++ [UInt8.ofNat xk]) ++ strB s = B3 at *
        have hm1 : B1.length + 1 ≤ maxLen := by unfold maxLen; omega
        have hm2 : (B1.length + 1) * 1 ≤ 140737488355328 := by omega
        clear hq
        go_region_held_law (fun W : World => W.cell? ⟨wr.heap.size, 1, none⟩ = some (.int .u8 (xk : Int)) ∧ W.cell? ⟨wr.heap.size, 2, none⟩ = some (.string ⟨s.toArray⟩))
          (first | exact ⟨kg.drew.i1.cell 1, kg.drew.i1.cell 2⟩ | exact ⟨(kg.alloc _).drew.i1.cell 1, (kg.alloc _).drew.i1.cell 2⟩ | exact ⟨kg3.i1.cell 1, kg3.i1.cell 2⟩)
          (first
            | (refine step_append_any _ (by rfl) (.tmp 19) (.tmp 23) 40 (by rfl) _ 5 i0 (.int .u8 0) 1 1 Try.underlying40 hi hz0 hz1 hz2 rfl (by omega) (.slice A2 B1.length c2) B1.length (bv B1) (by rfl) (own_drew (own.alloc _)) _ _ 1 1 (bv [UInt8.ofNat xk]) (by rfl) (one_reads _ o2).drew (bv_one _) hm1 hm2 (by simp; omega) ?_; intro v3 w3 own3 g3 at3; have kg3 := (kg.alloc _).drew.grown g3 (fun o ho => by have q := (own.lt o ho).1; simp at q; exact ⟨by omega, by simp; omega⟩); rw [← bv_append] at own3; obtain ⟨A3, c3, rfl, r3⟩ := own_slice1 own3; clear own3 at3 g3)
            | (go_simp; go_at_call 54; refine (HQ.out _ A3 c3 r3).mono ?_; rintro e w4 ⟨v4, rfl, own4, B4⟩; have kg3 := kg3.below B4))
        all_goals
          obtain ⟨A4, c4, rfl, r4⟩ := own_slice1 own4
          have hbw4 := hbw.trans (kg3.bw.mono hbw.size)
          clear own4 kg3
          go_wp2_with fail
          go_roundg (4 - (k + 1))
          case measure => omega
          case rel => exact ⟨k + 1, B3, A4, c4, by omega, by go_num, rfl, hB', hl', r4, hbw4⟩
    · obtain rfl : k = 4 := by omega
      go_wp2_with fail
      go_ret
      have e : l ++ tabB t = B := hB.out.symm
      rw [e]
      exact ⟨A1, c1, rfl, hr, hbw⟩
end Go.Proofs.Ytgbnaifjdfoahaa.Sess
