/- palaverref09.One, walked: a drawn region of 32 operations, by an invariant. Conditions: texts of at most 1,000 bytes. -/
import Derived.Test.YteiaiilfekojfaaGreatQPutsACmdPut
import Derived.Test.YteiaiilfekojfaaGreatQPutsAInv
namespace Go.Proofs.YteiaiilfekojfaaGreat.Cmd
open Go.RowKit Wire DrawInv

def IsOne (W : World) (v : Value) (x : Nat) : Prop := ∃ g, v = .slice (some ⟨g, 0, none⟩) 1 1 ∧ Reads W W.heap.size 1 (some ⟨g, 0, none⟩) 1 (bv [UInt8.ofNat x])
theorem IsOne.below {w w' : World} {v : Value} {x : Nat} (h : IsOne w v x) (hb : Below w.heap.size w w') : IsOne w' v x := by
  obtain ⟨g, e, r⟩ := h
  exact ⟨g, e, (r.below hb).more hb.size⟩
def oneV (c : Cm) (tm : List Value) (k : Nat) (v : Value) (W : World) : Prop :=
  if k = 5 then IsOne W v c.client else if k = 14 then IsOne W v c.kind else if k = 31 then IsOne W v c.set else v = tm.getD k undef
theorem oneV_below (c : Cm) (tm : List Value) (k : Nat) (v : Value) (w w' : World) (h : oneV c tm k v w) (hb : Below w.heap.size w w') : oneV c tm k v w' := by
  unfold oneV at *
  by_cases h1 : k = 5
  · rw [if_pos h1] at h ⊢; exact h.below hb
  rw [if_neg h1] at h ⊢
  by_cases h2 : k = 14
  · rw [if_pos h2] at h ⊢; exact h.below hb
  rw [if_neg h2] at h ⊢
  by_cases h3 : k = 31
  · rw [if_pos h3] at h ⊢; exact h.below hb
  rw [if_neg h3] at h ⊢
  exact h
set_option linter.unusedSimpArgs false in
set_option maxRecDepth 100000 in
set_option maxHeartbeats 4000000 in
theorem refOne_any (c : Cm) (hc : c.Fits) (hk : c.key.length ≤ 1000) (ho : c.old.length ≤ 1000) (hn : c.new.length ≤ 1000) (w : World) : Calls Tryz.prog 53 #[cmV c] w fun e w' => RetStr w (oneB c) e w' := by
  have h1 := hc.h1
  have h2 := hc.h2
  have h3 := hc.h3
  have h7 := hc.h7
  have kb := Blk.new w 29 (cmC c)
  have hB1 : Below w.heap.size w (w.alloc (.cells (cmC c) 29)) := (Below.refl _ w).alloc (Nat.le_refl _) _
  have HB1 := Lib.hid hB1
  clear hB1
  have hwr : IntKind.u64.wrap (c.seq : Int) = (c.seq : Int) := by rw [IntKind.wrap_u64]; omega
  have lns := (numB_length c.seq (by omega)).1
  have lsk : (strB c.key).length ≤ 1009 := by unfold strB; rw [List.length_append]; have := (numB_length c.key.length (by omega)).1; omega
  have lso : (strB c.old).length ≤ 1009 := by unfold strB; rw [List.length_append]; have := (numB_length c.old.length (by omega)).1; omega
  have lsn : (strB c.new).length ≤ 1009 := by unfold strB; rw [List.length_append]; have := (numB_length c.new.length (by omega)).1; omega
  obtain ⟨L1, hL1⟩ : ∃ L, L = [UInt8.ofNat c.client] ++ numB c.seq := ⟨_, rfl⟩
  obtain ⟨L2, hL2⟩ : ∃ L, L = L1 ++ [UInt8.ofNat c.kind] := ⟨_, rfl⟩
  obtain ⟨L3, hL3⟩ : ∃ L, L = L2 ++ strB c.key := ⟨_, rfl⟩
  obtain ⟨L4, hL4⟩ : ∃ L, L = L3 ++ strB c.old := ⟨_, rfl⟩
  obtain ⟨L5, hL5⟩ : ∃ L, L = L4 ++ strB c.new := ⟨_, rfl⟩
  obtain ⟨L6, hL6⟩ : ∃ L, L = L5 ++ [UInt8.ofNat c.set] := ⟨_, rfl⟩
  have ad1 := add_str ([UInt8.ofNat c.client]) (numB c.seq)
  rw [← hL1] at ad1
  have ad2 := add_str (L1) ([UInt8.ofNat c.kind])
  rw [← hL2] at ad2
  have ad3 := add_str (L2) (strB c.key)
  rw [← hL3] at ad3
  have ad4 := add_str (L3) (strB c.old)
  rw [← hL4] at ad4
  have ad5 := add_str (L4) (strB c.new)
  rw [← hL5] at ad5
  have ad6 := add_str (L5) ([UInt8.ofNat c.set])
  rw [← hL6] at ad6
  have ln1 : L1.length ≤ 10 := by rw [hL1, List.length_append]; (try simp only [List.length_cons, List.length_nil]); omega
  have ln2 : L2.length ≤ 11 := by rw [hL2, List.length_append]; (try simp only [List.length_cons, List.length_nil]); omega
  have ln3 : L3.length ≤ 1020 := by rw [hL3, List.length_append]; (try simp only [List.length_cons, List.length_nil]); omega
  have ln4 : L4.length ≤ 2029 := by rw [hL4, List.length_append]; (try simp only [List.length_cons, List.length_nil]); omega
  have ln5 : L5.length ≤ 3038 := by rw [hL5, List.length_append]; (try simp only [List.length_cons, List.length_nil]); omega
  have ln6 : L6.length ≤ 3039 := by rw [hL6, List.length_append]; (try simp only [List.length_cons, List.length_nil]); omega
  have lt1 : ¬ (9223372036854775807 < ([UInt8.ofNat c.client]).length + (numB c.seq).length) := by (try simp only [List.length_cons, List.length_nil]); omega
  have lt2 : ¬ (9223372036854775807 < (L1).length + ([UInt8.ofNat c.kind]).length) := by (try simp only [List.length_cons, List.length_nil]); omega
  have lt3 : ¬ (9223372036854775807 < (L2).length + (strB c.key).length) := by (try simp only [List.length_cons, List.length_nil]); omega
  have lt4 : ¬ (9223372036854775807 < (L3).length + (strB c.old).length) := by (try simp only [List.length_cons, List.length_nil]); omega
  have lt5 : ¬ (9223372036854775807 < (L4).length + (strB c.new).length) := by (try simp only [List.length_cons, List.length_nil]); omega
  have lt6 : ¬ (9223372036854775807 < (L5).length + ([UInt8.ofNat c.set]).length) := by (try simp only [List.length_cons, List.length_nil]); omega
  have hres : L6 = oneB c := by rw [hL6, hL5, hL4, hL3, hL2, hL1]; unfold oneB; simp
  clear hL1 hL2 hL3 hL4 hL5 hL6
  have sz1 := size_str L1
  have sz2 := size_str L2
  have sz3 := size_str L3
  have sz4 := size_str L4
  have sz5 := size_str L5
  have sz6 := size_str L6
  unfold cmV
  unfold cmC at *
  go_enter Tryz.func53, Tryz.ntmps53
  go_upto_region 1 with fail
  have kd := kb.drew
  generalize hw1 : w.alloc (.cells #[.int .u8 (c.client : Int), .int .u32 (c.seq : Int), .int .u8 (c.kind : Int), .string ⟨(c.key).toArray⟩, .string ⟨(c.old).toArray⟩, .string ⟨(c.new).toArray⟩, .int .u8 (c.set : Int)] 29) = w1 at *
  have k0 : w1.drew.cell? ⟨w.heap.size, 0, none⟩ = some (.int .u8 (c.client : Int)) := kd.cell 0
  have k1 : w1.drew.cell? ⟨w.heap.size, 1, none⟩ = some (.int .u32 (c.seq : Int)) := kd.cell 1
  have k2 : w1.drew.cell? ⟨w.heap.size, 2, none⟩ = some (.int .u8 (c.kind : Int)) := kd.cell 2
  have k3 : w1.drew.cell? ⟨w.heap.size, 3, none⟩ = some (.string ⟨(c.key).toArray⟩) := kd.cell 3
  have k4 : w1.drew.cell? ⟨w.heap.size, 4, none⟩ = some (.string ⟨(c.old).toArray⟩) := kd.cell 4
  have k5 : w1.drew.cell? ⟨w.heap.size, 5, none⟩ = some (.string ⟨(c.new).toArray⟩) := kd.cell 5
  have k6 : w1.drew.cell? ⟨w.heap.size, 6, none⟩ = some (.int .u8 (c.set : Int)) := kd.cell 6
  have hlt : w.heap.size < w1.drew.heap.size := kd.lt
  refine region_inv (by kernel_rfl) (oneV c [.agg #[.int .u8 (c.client : Int), .int .u32 (c.seq : Int), .int .u8 (c.kind : Int), .string ⟨(c.key).toArray⟩, .string ⟨(c.old).toArray⟩, .string ⟨(c.new).toArray⟩, .int .u8 (c.set : Int)], .pointer (some ⟨w.heap.size, 0, none⟩), .string ⟨(L6).toArray⟩, .pointer (some ⟨w.heap.size, 0, none⟩), .int .u8 (c.client : Int), undef, .string ⟨([UInt8.ofNat c.client]).toArray⟩, .pointer (some ⟨w.heap.size, 1, none⟩), .int .u32 (c.seq : Int), .int .u64 (c.seq : Int), .string ⟨(numB c.seq).toArray⟩, .string ⟨(L1).toArray⟩, .pointer (some ⟨w.heap.size, 2, none⟩), .int .u8 (c.kind : Int), undef, .string ⟨([UInt8.ofNat c.kind]).toArray⟩, .string ⟨(L2).toArray⟩, .pointer (some ⟨w.heap.size, 3, none⟩), .string ⟨(c.key).toArray⟩, .string ⟨(strB c.key).toArray⟩, .string ⟨(L3).toArray⟩, .pointer (some ⟨w.heap.size, 4, none⟩), .string ⟨(c.old).toArray⟩, .string ⟨(strB c.old).toArray⟩, .string ⟨(L4).toArray⟩, .pointer (some ⟨w.heap.size, 5, none⟩), .string ⟨(c.new).toArray⟩, .string ⟨(strB c.new).toArray⟩, .string ⟨(L5).toArray⟩, .pointer (some ⟨w.heap.size, 6, none⟩), .int .u8 (c.set : Int), undef, .string ⟨([UInt8.ofNat c.set]).toArray⟩, .string ⟨(L6).toArray⟩]) [0, 1] (by kernel_rfl) (by kernel_rfl) rfl (by kernel_rfl) (oneV_below _ _) ?_ ?_ ?_ ?_
  · intro k hk
    rcases List.mem_cons.1 hk with rfl | hk
    · rfl
    · obtain rfl := List.mem_singleton.1 hk
      rfl
  · intro k hk
    have hk : 34 ≤ k := hk
    unfold oneV
    rw [if_neg (by omega), if_neg (by omega), if_neg (by omega)]
    rw [List.getD_eq_getElem?_getD, List.getElem?_eq_none (by simpa using hk)]
    rfl
  · refine And.intro ?_ ?_
    · intro d hd ρ W hcs bw hn hg
      refine .inl ⟨trivial, ?_⟩
      clear hg
      cases hd
      have e1 : ρ (.tmp 1) = .pointer (some ⟨w.heap.size, 0, none⟩) := hn 1 (by decide)
      refine .inl ⟨.pointer (some ⟨w.heap.size, 0, none⟩), W, ?_, rfl, Below.refl _ _⟩
      clear hn
      go_simp
    refine And.intro ?_ ?_
    · intro d hd ρ W hcs bw hn hg
      refine .inl ⟨trivial, ?_⟩
      clear hg
      cases hd
      have e3 : ρ (.tmp 3) = .pointer (some ⟨w.heap.size, 0, none⟩) := hn 3 (by decide)
      have kx : W.cell? ⟨w.heap.size, 0, none⟩ = some (.int .u8 (c.client : Int)) := (bw.cell hlt).trans k0
      refine .inl ⟨.int .u8 (c.client : Int), W, ?_, rfl, Below.refl _ _⟩
      clear hn
      go_simp
    refine And.intro ?_ ?_
    · intro d hd ρ W hcs bw hn hg
      refine .inl ⟨trivial, ?_⟩
      clear hg
      cases hd
      have e4 : ρ (.tmp 4) = .int .u8 (c.client : Int) := hn 4 (by decide)
      refine .inl ⟨.slice (some ⟨W.heap.size, 0, none⟩) 1 1, W.alloc (.cells #[.int .u8 (c.client : Int)] 5), ?_, ⟨W.heap.size, rfl, one_reads W (by omega)⟩, (Below.refl _ W).alloc (Nat.le_refl _) _⟩
      clear hn
      go_simp
    refine And.intro ?_ ?_
    · intro d hd ρ W hcs bw hn hg
      refine .inl ⟨trivial, ?_⟩
      clear hg
      cases hd
      have e5 : IsOne W (ρ (.tmp 5)) c.client := hn 5 (by decide)
      obtain ⟨g, eg, rg⟩ := e5
      refine .inl ⟨.string ⟨([UInt8.ofNat c.client]).toArray⟩, W, ?_, rfl, Below.refl _ _⟩
      have hcv := conv_str Tryz.underlying103 Tryz.underlying5 Tryz.underlying9 1 rg
      clear hn
      go_simp
    refine And.intro ?_ ?_
    · intro d hd ρ W hcs bw hn hg
      refine .inl ⟨trivial, ?_⟩
      clear hg
      cases hd
      have e1 : ρ (.tmp 1) = .pointer (some ⟨w.heap.size, 0, none⟩) := hn 1 (by decide)
      refine .inl ⟨.pointer (some ⟨w.heap.size, 1, none⟩), W, ?_, rfl, Below.refl _ _⟩
      clear hn
      go_simp
    refine And.intro ?_ ?_
    · intro d hd ρ W hcs bw hn hg
      refine .inl ⟨trivial, ?_⟩
      clear hg
      cases hd
      have e7 : ρ (.tmp 7) = .pointer (some ⟨w.heap.size, 1, none⟩) := hn 7 (by decide)
      have kx : W.cell? ⟨w.heap.size, 1, none⟩ = some (.int .u32 (c.seq : Int)) := (bw.cell hlt).trans k1
      refine .inl ⟨.int .u32 (c.seq : Int), W, ?_, rfl, Below.refl _ _⟩
      clear hn
      go_simp
    refine And.intro ?_ ?_
    · intro d hd ρ W hcs bw hn hg
      refine .inl ⟨trivial, ?_⟩
      clear hg
      cases hd
      have e8 : ρ (.tmp 8) = .int .u32 (c.seq : Int) := hn 8 (by decide)
      refine .inl ⟨.int .u64 (c.seq : Int), W, ?_, rfl, Below.refl _ _⟩
      clear hn
      go_simp
    refine And.intro ?_ ?_
    · intro d hd ρ W hcs bw hn hg
      refine .inl ⟨trivial, ?_⟩
      clear hg
      cases hd
      have e9 : ρ (.tmp 9) = .int .u64 (c.seq : Int) := hn 9 (by decide)
      have ef : ρ (.func 52) = .func (.func 52) #[] #[] := hcs.2 _
      refine .inr ⟨52, #[.int .u64 (c.seq : Int)], ?_, (refNum_any c.seq (by omega) W).mono ?_⟩
      · clear hn; go_simp
      · rintro e w2 ⟨rfl, B2⟩; exact ⟨_, rfl, rfl, B2⟩
    refine And.intro ?_ ?_
    · intro d hd ρ W hcs bw hn hg
      refine .inl ⟨trivial, ?_⟩
      clear hg
      cases hd
      have e6 : ρ (.tmp 6) = .string ⟨([UInt8.ofNat c.client]).toArray⟩ := hn 6 (by decide)
      have e10 : ρ (.tmp 10) = .string ⟨(numB c.seq).toArray⟩ := hn 10 (by decide)
      refine .inl ⟨.string ⟨(L1).toArray⟩, W, ?_, rfl, Below.refl _ _⟩
      clear hn
      go_simp <;> omega
    refine And.intro ?_ ?_
    · intro d hd ρ W hcs bw hn hg
      refine .inl ⟨trivial, ?_⟩
      clear hg
      cases hd
      have e1 : ρ (.tmp 1) = .pointer (some ⟨w.heap.size, 0, none⟩) := hn 1 (by decide)
      refine .inl ⟨.pointer (some ⟨w.heap.size, 2, none⟩), W, ?_, rfl, Below.refl _ _⟩
      clear hn
      go_simp
    refine And.intro ?_ ?_
    · intro d hd ρ W hcs bw hn hg
      refine .inl ⟨trivial, ?_⟩
      clear hg
      cases hd
      have e12 : ρ (.tmp 12) = .pointer (some ⟨w.heap.size, 2, none⟩) := hn 12 (by decide)
      have kx : W.cell? ⟨w.heap.size, 2, none⟩ = some (.int .u8 (c.kind : Int)) := (bw.cell hlt).trans k2
      refine .inl ⟨.int .u8 (c.kind : Int), W, ?_, rfl, Below.refl _ _⟩
      clear hn
      go_simp
    refine And.intro ?_ ?_
    · intro d hd ρ W hcs bw hn hg
      refine .inl ⟨trivial, ?_⟩
      clear hg
      cases hd
      have e13 : ρ (.tmp 13) = .int .u8 (c.kind : Int) := hn 13 (by decide)
      refine .inl ⟨.slice (some ⟨W.heap.size, 0, none⟩) 1 1, W.alloc (.cells #[.int .u8 (c.kind : Int)] 5), ?_, ⟨W.heap.size, rfl, one_reads W (by omega)⟩, (Below.refl _ W).alloc (Nat.le_refl _) _⟩
      clear hn
      go_simp
    refine And.intro ?_ ?_
    · intro d hd ρ W hcs bw hn hg
      refine .inl ⟨trivial, ?_⟩
      clear hg
      cases hd
      have e14 : IsOne W (ρ (.tmp 14)) c.kind := hn 14 (by decide)
      obtain ⟨g, eg, rg⟩ := e14
      refine .inl ⟨.string ⟨([UInt8.ofNat c.kind]).toArray⟩, W, ?_, rfl, Below.refl _ _⟩
      have hcv := conv_str Tryz.underlying103 Tryz.underlying5 Tryz.underlying9 1 rg
      clear hn
      go_simp
    refine And.intro ?_ ?_
    · intro d hd ρ W hcs bw hn hg
      refine .inl ⟨trivial, ?_⟩
      clear hg
      cases hd
      have e11 : ρ (.tmp 11) = .string ⟨(L1).toArray⟩ := hn 11 (by decide)
      have e15 : ρ (.tmp 15) = .string ⟨([UInt8.ofNat c.kind]).toArray⟩ := hn 15 (by decide)
      refine .inl ⟨.string ⟨(L2).toArray⟩, W, ?_, rfl, Below.refl _ _⟩
      clear hn
      go_simp <;> omega
    refine And.intro ?_ ?_
    · intro d hd ρ W hcs bw hn hg
      refine .inl ⟨trivial, ?_⟩
      clear hg
      cases hd
      have e1 : ρ (.tmp 1) = .pointer (some ⟨w.heap.size, 0, none⟩) := hn 1 (by decide)
      refine .inl ⟨.pointer (some ⟨w.heap.size, 3, none⟩), W, ?_, rfl, Below.refl _ _⟩
      clear hn
      go_simp
    refine And.intro ?_ ?_
    · intro d hd ρ W hcs bw hn hg
      refine .inl ⟨trivial, ?_⟩
      clear hg
      cases hd
      have e17 : ρ (.tmp 17) = .pointer (some ⟨w.heap.size, 3, none⟩) := hn 17 (by decide)
      have kx : W.cell? ⟨w.heap.size, 3, none⟩ = some (.string ⟨(c.key).toArray⟩) := (bw.cell hlt).trans k3
      refine .inl ⟨.string ⟨(c.key).toArray⟩, W, ?_, rfl, Below.refl _ _⟩
      clear hn
      go_simp
    refine And.intro ?_ ?_
    · intro d hd ρ W hcs bw hn hg
      refine .inl ⟨trivial, ?_⟩
      clear hg
      cases hd
      have e18 : ρ (.tmp 18) = .string ⟨(c.key).toArray⟩ := hn 18 (by decide)
      have ef : ρ (.func 54) = .func (.func 54) #[] #[] := hcs.2 _
      refine .inr ⟨54, #[.string ⟨(c.key).toArray⟩], ?_, (refStr_any c.key (by omega) W).mono ?_⟩
      · clear hn; go_simp
      · rintro e w2 ⟨rfl, B2⟩; exact ⟨_, rfl, rfl, B2⟩
    refine And.intro ?_ ?_
    · intro d hd ρ W hcs bw hn hg
      refine .inl ⟨trivial, ?_⟩
      clear hg
      cases hd
      have e16 : ρ (.tmp 16) = .string ⟨(L2).toArray⟩ := hn 16 (by decide)
      have e19 : ρ (.tmp 19) = .string ⟨(strB c.key).toArray⟩ := hn 19 (by decide)
      refine .inl ⟨.string ⟨(L3).toArray⟩, W, ?_, rfl, Below.refl _ _⟩
      clear hn
      go_simp <;> omega
    refine And.intro ?_ ?_
    · intro d hd ρ W hcs bw hn hg
      refine .inl ⟨trivial, ?_⟩
      clear hg
      cases hd
      have e1 : ρ (.tmp 1) = .pointer (some ⟨w.heap.size, 0, none⟩) := hn 1 (by decide)
      refine .inl ⟨.pointer (some ⟨w.heap.size, 4, none⟩), W, ?_, rfl, Below.refl _ _⟩
      clear hn
      go_simp
    refine And.intro ?_ ?_
    · intro d hd ρ W hcs bw hn hg
      refine .inl ⟨trivial, ?_⟩
      clear hg
      cases hd
      have e21 : ρ (.tmp 21) = .pointer (some ⟨w.heap.size, 4, none⟩) := hn 21 (by decide)
      have kx : W.cell? ⟨w.heap.size, 4, none⟩ = some (.string ⟨(c.old).toArray⟩) := (bw.cell hlt).trans k4
      refine .inl ⟨.string ⟨(c.old).toArray⟩, W, ?_, rfl, Below.refl _ _⟩
      clear hn
      go_simp
    refine And.intro ?_ ?_
    · intro d hd ρ W hcs bw hn hg
      refine .inl ⟨trivial, ?_⟩
      clear hg
      cases hd
      have e22 : ρ (.tmp 22) = .string ⟨(c.old).toArray⟩ := hn 22 (by decide)
      have ef : ρ (.func 54) = .func (.func 54) #[] #[] := hcs.2 _
      refine .inr ⟨54, #[.string ⟨(c.old).toArray⟩], ?_, (refStr_any c.old (by omega) W).mono ?_⟩
      · clear hn; go_simp
      · rintro e w2 ⟨rfl, B2⟩; exact ⟨_, rfl, rfl, B2⟩
    refine And.intro ?_ ?_
    · intro d hd ρ W hcs bw hn hg
      refine .inl ⟨trivial, ?_⟩
      clear hg
      cases hd
      have e20 : ρ (.tmp 20) = .string ⟨(L3).toArray⟩ := hn 20 (by decide)
      have e23 : ρ (.tmp 23) = .string ⟨(strB c.old).toArray⟩ := hn 23 (by decide)
      refine .inl ⟨.string ⟨(L4).toArray⟩, W, ?_, rfl, Below.refl _ _⟩
      clear hn
      go_simp <;> omega
    refine And.intro ?_ ?_
    · intro d hd ρ W hcs bw hn hg
      refine .inl ⟨trivial, ?_⟩
      clear hg
      cases hd
      have e1 : ρ (.tmp 1) = .pointer (some ⟨w.heap.size, 0, none⟩) := hn 1 (by decide)
      refine .inl ⟨.pointer (some ⟨w.heap.size, 5, none⟩), W, ?_, rfl, Below.refl _ _⟩
      clear hn
      go_simp
    refine And.intro ?_ ?_
    · intro d hd ρ W hcs bw hn hg
      refine .inl ⟨trivial, ?_⟩
      clear hg
      cases hd
      have e25 : ρ (.tmp 25) = .pointer (some ⟨w.heap.size, 5, none⟩) := hn 25 (by decide)
      have kx : W.cell? ⟨w.heap.size, 5, none⟩ = some (.string ⟨(c.new).toArray⟩) := (bw.cell hlt).trans k5
      refine .inl ⟨.string ⟨(c.new).toArray⟩, W, ?_, rfl, Below.refl _ _⟩
      clear hn
      go_simp
    refine And.intro ?_ ?_
    · intro d hd ρ W hcs bw hn hg
      refine .inl ⟨trivial, ?_⟩
      clear hg
      cases hd
      have e26 : ρ (.tmp 26) = .string ⟨(c.new).toArray⟩ := hn 26 (by decide)
      have ef : ρ (.func 54) = .func (.func 54) #[] #[] := hcs.2 _
      refine .inr ⟨54, #[.string ⟨(c.new).toArray⟩], ?_, (refStr_any c.new (by omega) W).mono ?_⟩
      · clear hn; go_simp
      · rintro e w2 ⟨rfl, B2⟩; exact ⟨_, rfl, rfl, B2⟩
    refine And.intro ?_ ?_
    · intro d hd ρ W hcs bw hn hg
      refine .inl ⟨trivial, ?_⟩
      clear hg
      cases hd
      have e24 : ρ (.tmp 24) = .string ⟨(L4).toArray⟩ := hn 24 (by decide)
      have e27 : ρ (.tmp 27) = .string ⟨(strB c.new).toArray⟩ := hn 27 (by decide)
      refine .inl ⟨.string ⟨(L5).toArray⟩, W, ?_, rfl, Below.refl _ _⟩
      clear hn
      go_simp <;> omega
    refine And.intro ?_ ?_
    · intro d hd ρ W hcs bw hn hg
      refine .inl ⟨trivial, ?_⟩
      clear hg
      cases hd
      have e1 : ρ (.tmp 1) = .pointer (some ⟨w.heap.size, 0, none⟩) := hn 1 (by decide)
      refine .inl ⟨.pointer (some ⟨w.heap.size, 6, none⟩), W, ?_, rfl, Below.refl _ _⟩
      clear hn
      go_simp
    refine And.intro ?_ ?_
    · intro d hd ρ W hcs bw hn hg
      refine .inl ⟨trivial, ?_⟩
      clear hg
      cases hd
      have e29 : ρ (.tmp 29) = .pointer (some ⟨w.heap.size, 6, none⟩) := hn 29 (by decide)
      have kx : W.cell? ⟨w.heap.size, 6, none⟩ = some (.int .u8 (c.set : Int)) := (bw.cell hlt).trans k6
      refine .inl ⟨.int .u8 (c.set : Int), W, ?_, rfl, Below.refl _ _⟩
      clear hn
      go_simp
    refine And.intro ?_ ?_
    · intro d hd ρ W hcs bw hn hg
      refine .inl ⟨trivial, ?_⟩
      clear hg
      cases hd
      have e30 : ρ (.tmp 30) = .int .u8 (c.set : Int) := hn 30 (by decide)
      refine .inl ⟨.slice (some ⟨W.heap.size, 0, none⟩) 1 1, W.alloc (.cells #[.int .u8 (c.set : Int)] 5), ?_, ⟨W.heap.size, rfl, one_reads W (by omega)⟩, (Below.refl _ W).alloc (Nat.le_refl _) _⟩
      clear hn
      go_simp
    refine And.intro ?_ ?_
    · intro d hd ρ W hcs bw hn hg
      refine .inl ⟨trivial, ?_⟩
      clear hg
      cases hd
      have e31 : IsOne W (ρ (.tmp 31)) c.set := hn 31 (by decide)
      obtain ⟨g, eg, rg⟩ := e31
      refine .inl ⟨.string ⟨([UInt8.ofNat c.set]).toArray⟩, W, ?_, rfl, Below.refl _ _⟩
      have hcv := conv_str Tryz.underlying103 Tryz.underlying5 Tryz.underlying9 1 rg
      clear hn
      go_simp
    refine And.intro ?_ ?_
    · intro d hd ρ W hcs bw hn hg
      refine .inl ⟨trivial, ?_⟩
      clear hg
      cases hd
      have e28 : ρ (.tmp 28) = .string ⟨(L5).toArray⟩ := hn 28 (by decide)
      have e32 : ρ (.tmp 32) = .string ⟨([UInt8.ofNat c.set]).toArray⟩ := hn 32 (by decide)
      refine .inl ⟨.string ⟨(L6).toArray⟩, W, ?_, rfl, Below.refl _ _⟩
      clear hn
      go_simp <;> omega
    refine And.intro ?_ ?_
    · intro d hd ρ W hcs bw hn hg
      refine .inl ⟨trivial, ?_⟩
      clear hg
      cases hd
      have e33 : ρ (.tmp 33) = .string ⟨(L6).toArray⟩ := hn 33 (by decide)
      refine .inl ⟨.string ⟨(L6).toArray⟩, W, ?_, rfl, Below.refl _ _⟩
      show Result.ok (Next.value (ρ (.tmp 33))) W = _
      rw [e33]
    trivial
  · intro a' w' hsz hdf hb hVs
    have hr : a'.eval (.tmp 2) = .string ⟨(L6).toArray⟩ := hVs 2
    have q0 : a'.eval (.tmp 0) = .agg #[.int .u8 (c.client : Int), .int .u32 (c.seq : Int), .int .u8 (c.kind : Int), .string ⟨(c.key).toArray⟩, .string ⟨(c.old).toArray⟩, .string ⟨(c.new).toArray⟩, .int .u8 (c.set : Int)] := hVs 0
    have q1 : a'.eval (.tmp 1) = .pointer (some ⟨w.heap.size, 0, none⟩) := hVs 1
    have q2 : a'.eval (.tmp 2) = .string ⟨(L6).toArray⟩ := hVs 2
    have q3 : a'.eval (.tmp 3) = .pointer (some ⟨w.heap.size, 0, none⟩) := hVs 3
    have q4 : a'.eval (.tmp 4) = .int .u8 (c.client : Int) := hVs 4
    have q6 : a'.eval (.tmp 6) = .string ⟨([UInt8.ofNat c.client]).toArray⟩ := hVs 6
    have q7 : a'.eval (.tmp 7) = .pointer (some ⟨w.heap.size, 1, none⟩) := hVs 7
    have q8 : a'.eval (.tmp 8) = .int .u32 (c.seq : Int) := hVs 8
    have q9 : a'.eval (.tmp 9) = .int .u64 (c.seq : Int) := hVs 9
    have q10 : a'.eval (.tmp 10) = .string ⟨(numB c.seq).toArray⟩ := hVs 10
    have q11 : a'.eval (.tmp 11) = .string ⟨(L1).toArray⟩ := hVs 11
    have q12 : a'.eval (.tmp 12) = .pointer (some ⟨w.heap.size, 2, none⟩) := hVs 12
    have q13 : a'.eval (.tmp 13) = .int .u8 (c.kind : Int) := hVs 13
    have q15 : a'.eval (.tmp 15) = .string ⟨([UInt8.ofNat c.kind]).toArray⟩ := hVs 15
    have q16 : a'.eval (.tmp 16) = .string ⟨(L2).toArray⟩ := hVs 16
    have q17 : a'.eval (.tmp 17) = .pointer (some ⟨w.heap.size, 3, none⟩) := hVs 17
    have q18 : a'.eval (.tmp 18) = .string ⟨(c.key).toArray⟩ := hVs 18
    have q19 : a'.eval (.tmp 19) = .string ⟨(strB c.key).toArray⟩ := hVs 19
    have q20 : a'.eval (.tmp 20) = .string ⟨(L3).toArray⟩ := hVs 20
    have q21 : a'.eval (.tmp 21) = .pointer (some ⟨w.heap.size, 4, none⟩) := hVs 21
    have q22 : a'.eval (.tmp 22) = .string ⟨(c.old).toArray⟩ := hVs 22
    have q23 : a'.eval (.tmp 23) = .string ⟨(strB c.old).toArray⟩ := hVs 23
    have q24 : a'.eval (.tmp 24) = .string ⟨(L4).toArray⟩ := hVs 24
    have q25 : a'.eval (.tmp 25) = .pointer (some ⟨w.heap.size, 5, none⟩) := hVs 25
    have q26 : a'.eval (.tmp 26) = .string ⟨(c.new).toArray⟩ := hVs 26
    have q27 : a'.eval (.tmp 27) = .string ⟨(strB c.new).toArray⟩ := hVs 27
    have q28 : a'.eval (.tmp 28) = .string ⟨(L5).toArray⟩ := hVs 28
    have q29 : a'.eval (.tmp 29) = .pointer (some ⟨w.heap.size, 6, none⟩) := hVs 29
    have q30 : a'.eval (.tmp 30) = .int .u8 (c.set : Int) := hVs 30
    have q32 : a'.eval (.tmp 32) = .string ⟨([UInt8.ofNat c.set]).toArray⟩ := hVs 32
    have q33 : a'.eval (.tmp 33) = .string ⟨(L6).toArray⟩ := hVs 33
    have ha := act_slots a' 34 hsz hdf
    rw [show List.range 34 = [0, 1, 2, 3, 4, 5, 6, 7, 8, 9, 10, 11, 12, 13, 14, 15, 16, 17, 18, 19, 20, 21, 22, 23, 24, 25, 26, 27, 28, 29, 30, 31, 32, 33] from rfl] at ha
    simp only [List.map_cons, List.map_nil, q0, q1, q2, q3, q4, q6, q7, q8, q9, q10, q11, q12, q13, q15, q16, q17, q18, q19, q20, q21, q22, q23, q24, q25, q26, q27, q28, q29, q30, q32, q33] at ha
    generalize a'.eval (.tmp 5) = x5 at ha
    generalize a'.eval (.tmp 14) = x14 at ha
    generalize a'.eval (.tmp 31) = x31 at ha
    subst ha
    have bw := HB1.out.drew.trans (hb.mono HB1.out.drew.size)
    clear hVs hr
    go_wp2
    go_ret
    exact ⟨by rw [← hres]; rfl, bw⟩
end Go.Proofs.YteiaiilfekojfaaGreat.Cmd
