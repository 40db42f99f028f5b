/- The walk of WireWrites: numbers and texts as bytes are what the reference says. Conditions: the arguments can be read. -/
import Derived.Test.YtgoppdllknimfaaWireRef
import Derived.Test.YtgoppdllknimfaaOpen
import Derived.Deep.RegionWith
import Derived.Deep.RegionLaw
import Derived.Deep.RegionHeldLaw
namespace Go.Proofs.Ytgoppdllknimfaa.WireWritesW
open Go.RowKit Wire

/-- A slice of bytes is that text, in every later world. -/
def ConvAt (A : Option Addr) (n c : Nat) (l : List UInt8) (w : World) : Prop :=
  ∀ W : World, Below w.heap.size w W → (convert 37 9 (.slice A n c)).run Try.prog W = .ok (.string ⟨l.toArray⟩) W
theorem conv_at {w : World} {A : Option Addr} {n : Nat} {l : List UInt8} (c : Nat) (h : Reads w w.heap.size 1 A n (bv l)) : ConvAt A n c l w := fun _ hb =>
  conv_str Try.underlying37 Try.underlying5 Try.underlying9 c (h.below hb)

theorem nats_u8 : ∀ (zs : List Int), (∀ n ∈ zs, (Lit.int .u8 n).wf = true) → ∃ l : List UInt8, zs.map (Value.int .u8) = bv l ∧ l.length = zs.length
  | [], _ => ⟨[], rfl, rfl⟩
  | z :: zs, h => by
    obtain ⟨l, hl, hn⟩ := nats_u8 zs (fun n hn => h n (List.mem_cons_of_mem _ hn))
    have hb := bounds_u8 (h z (List.mem_cons_self ..))
    obtain ⟨x, rfl⟩ := Int.eq_ofNat_of_zero_le hb.1
    refine ⟨UInt8.ofNat x :: l, ?_, by simp [hn]⟩
    have hx : (UInt8.ofNat x).toNat = x := by simp; omega
    have hv : byteV (UInt8.ofNat x) = .int .u8 (x : Int) := by unfold byteV; rw [hx]
    simp only [List.map_cons, hl, bv, hv]
theorem open_bytes {H : Type} {enc : TypeId × Value → H} {P : Program} {w : World} {base : Nat} {t e : TypeId} {v : Value} {d : DataW H} {p : List MemPlace} {r : Reach} (ht : P.underlying t = some (.slice e)) (he : P.underlying e = some (.int .u8)) (hc : P.cellsOf e = 1)
    (h : DataW.Trod enc P w 0 (fun _ => true) true t v d p) (hk : Value.okWide P w r base t v) :
    ∃ (A : Option Addr) (c : Nat) (l : List UInt8), v = .slice A l.length c ∧ Reads w w.heap.size 1 A l.length (bv l) ∧ l.length ≤ maxLen := by
  obtain ⟨A, c, zs, rfl, hr, hz, hl, hm⟩ := open_ints_list ht he hc h hk
  obtain ⟨l, h1, h2⟩ := nats_u8 zs hz
  rw [h1, ← h2] at hr
  exact ⟨A, c, l, by rw [h2], hr, by omega⟩
set_option maxRecDepth 100000 in
set_option maxHeartbeats 4000000 in
theorem core (b s : List UInt8) (A : Option Addr) (c n : Nat) (hn : n < 18446744073709551616) (hb : b.length ≤ 9223372036854775807) (hs : s.length ≤ 9223372036854775807) (w : World) (hr : Reads w w.heap.size 1 A b.length (bv b)) :
    Calls Try.prog 6 #[.slice A b.length c, .int .u64 (n : Int), .string ⟨s.toArray⟩] w fun e w' => e = .returned (.bool true) ∧ Below w.heap.size w w' := by
  have hsz := size_str s
  obtain ⟨i0, hi, hz0, hz1, hz2⟩ := info_parts info_u8
  by_cases hb2 : 2000 < b.length
  · go_enter Try.func6, Try.ntmps6
    go_wp2_with (go_at_call 24; refine (wakes_any _).mono ?_; rintro e w' ⟨rfl, hb⟩)
    go_ret
    exact ⟨rfl, hb⟩
  by_cases hs2 : 2000 < s.length
  · go_enter Try.func6, Try.ntmps6
    go_wp2_with (go_at_call 24; refine (wakes_any _).mono ?_; rintro e w' ⟨rfl, hb⟩)
    go_ret
    exact ⟨rfl, hb⟩
  have hcv := conv_str Try.underlying37 Try.underlying5 Try.underlying9 c hr
  have HR := Lib.hid hr
  clear hr
  go_enter Try.func6, Try.ntmps6
  go_wp2_with fail
  have hd0 : Below w.heap.size w w.drew := (Below.refl _ w).drew
  have ad1 := add_str b (numB n)
  have ad2 := add_str b (strB s)
  have ln1 := (numB_length n hn).1
  have ln2 : (strB s).length ≤ 2009 := by unfold strB; rw [List.length_append]; have := (numB_length s.length (by omega)).1; omega
  have lt1 : ¬ (9223372036854775807 < b.length + (numB n).length) := by omega
  have lt2 : ¬ (9223372036854775807 < b.length + (strB s).length) := by omega
  go_region_held_law (fun _ => True) (trivial)
    (first
      | (refine step_append_any _ (by rfl) (.const (.slice none 0 0)) (.tmp 19) _ (by rfl) w.heap.size 5 i0 (.int .u8 0) 1 1 Try.underlying37 hi hz0 hz1 hz2 rfl (by omega) (.slice none 0 0) 0 [] (by rfl) ⟨by simp, .inl ⟨rfl, rfl⟩⟩ w.heap.size A b.length c (bv b) (by rfl) (HR.out.below hd0) (bv_one _) (by simp only [maxLen]; omega) (by omega) (hd0).size ?_; intro v1 w1 hown1 hg1 hat1; simp only [Nat.zero_add, List.nil_append] at hown1; have B1 := (hd0).grown hg1 (hd0).size (by simp [Value.ownBlock]); obtain ⟨A1, c1, rfl, r1⟩ := own_slice1 hown1; clear hown1 hg1 hat1)
      | (go_simp; go_at_call 25; refine (num_put A1 c1 b n hn (by omega) _ r1).mono ?_; rintro e w2 hret; obtain ⟨A2, c2, rfl, r2, B2⟩ := hret.s; have k2 : ConvAt A2 (b.length + (numB n).length) c2 (b ++ numB n) w2 := conv_at c2 (by have h := r2; rw [List.length_append] at h; exact h); unfold ConvAt at k2; have K2 := Below.refl w2.heap.size w2; have B02 := B1.trans (B2.mono B1.size); clear hret)
      | (go_simp; go_at_call 26; refine (refNum_any n hn _).mono ?_; rintro e w3 ⟨rfl, B3⟩; have B03 := B02.trans (B3.mono B02.size))
      | (refine step_append_any_g _ (by simp [Region.wanted, yielded]) (.const (.slice none 0 0)) (.tmp 30) _ (by rfl) w.heap.size 5 i0 (.int .u8 0) 1 1 Try.underlying37 hi hz0 hz1 hz2 rfl (by omega) (.slice none 0 0) 0 [] (by rfl) ⟨by simp, .inl ⟨rfl, rfl⟩⟩ w.heap.size A b.length c (bv b) (by rfl) (HR.out.below B03) (bv_one _) (by simp only [maxLen]; omega) (by omega) (B03).size ?_; intro v4 w4 hown4 hg4 hat4; simp only [Nat.zero_add, List.nil_append] at hown4; have B4 := (B03).grown hg4 (B03).size (by simp [Value.ownBlock]); obtain ⟨A4, c4, rfl, r4⟩ := own_slice1 hown4; clear hown4 hg4 hat4)
      | (go_simp; go_at_call 27; refine (str_put A4 c4 b s (by omega) (by omega) _ r4).mono ?_; rintro e w5 hret; obtain ⟨A5, c5, rfl, r5, B5⟩ := hret.s; have k5 : ConvAt A5 (b.length + (strB s).length) c5 (b ++ strB s) w5 := conv_at c5 (by have h := r5; rw [List.length_append] at h; exact h); unfold ConvAt at k5; have K5 := Below.refl w5.heap.size w5; have B05 := B4.trans (B5.mono B4.size); clear hret)
      | (go_simp; go_at_call 28; refine (refStr_any s (by omega) _).mono ?_; rintro e w6 ⟨rfl, B6⟩; have B06 := B05.trans (B6.mono B05.size))
      | (go_simp; go_at_call 24; refine (wakes_any _).mono ?_; rintro e w7 ⟨rfl, B7⟩; have B07 := B06.trans (B7.mono B06.size)))
  all_goals (go_wp2; go_ret)
  all_goals first | exact ⟨rfl, B07⟩ | exact ⟨by simp [ad1, ad2], B07⟩ | skip

theorem walk {H : Type} {enc : TypeId × Value → H} (W : World) (base : Nat) (v0 : Value) (d0 : DataW H) (p0 : List MemPlace) (v1 : Value) (d1 : DataW H) (p1 : List MemPlace) (v2 : Value) (d2 : DataW H) (p2 : List MemPlace)
    (h0 : DataW.Trod enc Try.prog W 0 (fun _ => true) true 37 v0 d0 p0) (h1 : DataW.Trod enc Try.prog W 0 (fun _ => true) true 23 v1 d1 p1) (h2 : DataW.Trod enc Try.prog W 0 (fun _ => true) true 9 v2 d2 p2)
    (k0 : Value.okWide Try.prog W .any base 37 v0) (k1 : Value.okWide Try.prog W .any base 23 v1) (k2 : Value.okWide Try.prog W .any base 9 v2)
    (_l0 : ∀ x ∈ p0, x.block < W.heap.size) (_l1 : ∀ x ∈ p1, x.block < W.heap.size) (_l2 : ∀ x ∈ p2, x.block < W.heap.size) :
    Calls Try.prog 6 #[v0, v1, v2] W fun e w' => e = .returned (.bool true) ∧ Below W.heap.size W w' := by
  obtain ⟨A, c, l, rfl, hr, hl⟩ := open_bytes Try.underlying37 Try.underlying5 (by rfl) h0 k0
  obtain ⟨a1, rfl, _, _, w1⟩ := ChangeShapes.open_int Try.underlying23 k1 h1
  obtain ⟨s, rfl, _, _, ws⟩ := ChangeMaps.open_string Try.underlying9 k2 h2
  have b1 := bounds_u64 w1
  obtain ⟨n, rfl⟩ := Int.eq_ofNat_of_zero_le b1.1
  obtain ⟨⟨s⟩⟩ := s
  exact core l s A c n (by omega) (by unfold maxLen at hl; omega) (by have := ws; unfold maxLen at this; rw [size_str] at this; omega) W hr
end Go.Proofs.Ytgoppdllknimfaa.WireWritesW
