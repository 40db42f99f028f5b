/- Package ballot, walked: Put, whose bytes are one's own. Conditions: the bytes can be read. -/
import Derived.Deep.RegionHeld3
import Derived.Test.YteiaiilfekojfaaGreatQNetOrderBalPut
namespace Go.Proofs.YteiaiilfekojfaaGreat.Bal
open Go.RowKit Wire

theorem own_base {w : World} {base base' : Nat} {e : TypeId} {size n : Nat} {v : Value} {xs : List Value} (h : w.ownsRow base e size v n xs) (hb : base' ≤ base) : w.ownsRow base' e size v n xs := by
  refine ⟨h.1, ?_⟩
  rcases h.2 with h0 | ⟨g, cap, cur, hv, hg, rest⟩
  · exact .inl h0
  · exact .inr ⟨g, cap, cur, hv, Nat.le_trans hb hg, rest⟩
set_option maxRecDepth 100000 in
set_option maxHeartbeats 4000000 in
theorem put_own (A : Option Addr) (c : Nat) (l : List UInt8) (b : B) (hn : b.n < 18446744073709551616) (hb : b.r < 256) (hl : l.length ≤ 1000000000) (w : World) (hr : Reads w w.heap.size 1 A l.length (bv l)) :
    Calls Tryz.prog 132 #[.slice A l.length c, bV b] w fun e w' => RetB w w' e (l ++ balB b) := by
  obtain ⟨i0, hi, hz0, hz1, hz2⟩ := info_parts info_u8
  have HR := Lib.hid hr
  clear hr
  have hd1 := (below_1 w (.cells (bC b) 24)).drew
  have hd2 := fun o => (below_2 w (.cells (bC b) 24) o).drew
  have z1 := box_cells w b
  have z2 := box_cells2 w b
  unfold bV
  unfold bC at *
  go_enter Tryz.func132, Tryz.ntmps132
  go_wp2_with fail
  have hm : (l ++ numB b.n).length ≤ 1000000009 := by rw [List.length_append]; have := (numB_length b.n hn).1; omega
  have hm1 : (l ++ numB b.n).length + 1 ≤ maxLen := by unfold maxLen; omega
  have hm2 : ((l ++ numB b.n).length + 1) * 1 ≤ 140737488355328 := by omega
  have hv : Hid (bv (l ++ numB b.n) ++ [.int .u8 (b.r : Int)] = bv (l ++ balB b)) := by
    have e : byteV (UInt8.ofNat b.r) = .int .u8 (b.r : Int) := by unfold byteV; rw [show (UInt8.ofNat b.r).toNat = b.r from by simp; omega]
    show _ = _
    unfold balB bv
    simp [e]
  go_region_held3 (fun W : World => W.cell? ⟨w.heap.size, 0, none⟩ = some (.int .u64 (b.n : Int)) ∧ W.cell? ⟨w.heap.size, 1, none⟩ = some (.int .u8 (b.r : Int))) (first | go_keep | exact ⟨k0, k1⟩) (first
    | (go_at_call 88; refine (num_put A c l b.n hn (by omega) _ ((HR.out.below hd1).more hd1.size)).mono ?_; rintro e w2 ⟨v2, rfl, own2, B2⟩; have k0 := (B2.cell (by simp)).trans z1.1; have k1 := (B2.cell (by simp)).trans z1.2)
    | (go_at_call 88; refine (num_put A c l b.n hn (by omega) _ ((HR.out.below (hd2 (.cells #[.int .u8 (b.r : Int)] 5))).more (hd2 (.cells #[.int .u8 (b.r : Int)] 5)).size)).mono ?_; rintro e w2 ⟨v2, rfl, own2b, B2⟩; have k0 := (B2.cell (by simp <;> omega)).trans (z2 _).1; have k1 := (B2.cell (by simp <;> omega)).trans (z2 _).2)
    | (refine step_append_any _ (by rfl) (.tmp 8) (.tmp 11) 103 (by rfl) _ 5 i0 (.int .u8 0) 1 1 Tryz.underlying103 hi hz0 hz1 hz2 rfl (by omega) v2 _ _ (by rfl) (own2.alloc _) _ _ 1 1 [.int .u8 (b.r : Int)] (by rfl) (Reads.of_own (own_new (base := 0) 5 _ (Nat.zero_le _))) (by simp [Value.oneCell']) hm1 hm2 (Nat.le_trans B2.size (by simp)) ?_; intro v3 w3 own3 g3 at3; have b3 := own_step own2 B2 B2.size g3; have k0 := (b3.cell (by simp)).trans z1.1; have k1 := (b3.cell (by simp)).trans z1.2; have bb := hd1.trans (b3.mono hd1.size); obtain ⟨A3, c3, rfl, r3⟩ := own_slice1 own3)
    | (refine step_append_any _ (by rfl) (.tmp 8) (.tmp 11) 103 (by rfl) _ 5 i0 (.int .u8 0) 1 1 Tryz.underlying103 hi hz0 hz1 hz2 rfl (by omega) v2 _ _ (by rfl) own2b _ _ 1 1 [.int .u8 (b.r : Int)] (by rfl) ((arr_reads w b).drew.below B2) (by simp [Value.oneCell']) hm1 hm2 B2.size ?_; intro v3 w3 own3 g3 at3; have b3 := B2.grown g3 B2.size (fun k hk => (own2b.lt k hk).1); have k0 := (b3.cell (by simp <;> omega)).trans (z2 _).1; have k1 := (b3.cell (by simp <;> omega)).trans (z2 _).2; have bb := (hd2 _).trans (b3.mono (hd2 _).size); obtain ⟨A3, c3, rfl, r3⟩ := own_slice1 own3))
  all_goals
    have O3 := Lib.hid own3
    have BB := Lib.hid bb
    clear r3 bb own3 at3 g3 b3
    go_wp2
    go_ret
    have e2 : (l ++ numB b.n).length + 1 = (l ++ balB b).length := by unfold balB; simp; omega
    have e3 : l.length + (numB b.n).length + 1 = (l ++ balB b).length := by rw [← e2, List.length_append]
    have o3 := O3.out
    rw [hv.out, e2] at o3
    exact ⟨.slice A3 (l ++ balB b).length c3, by rw [← e3]; rfl, own_base o3 (by first | exact hd1.size | exact (hd2 _).size), BB.out⟩
end Go.Proofs.YteiaiilfekojfaaGreat.Bal
