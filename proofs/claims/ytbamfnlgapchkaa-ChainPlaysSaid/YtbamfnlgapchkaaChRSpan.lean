/- The reference of a chain, walked: Span. Conditions: the lists can be read. -/
import Derived.Test.YtbamfnlgapchkaaChRef
namespace Go.Proofs.Ytbamfnlgapchkaa.Chn
open Go.RowKit Mem DrawInv

def refTo (c : Ch) (a b k : Nat) : List Nat := (List.range k).filterMap fun i => tellAt c a b (c.low + i + 1)
theorem refTo_all (c : Ch) (a b : Nat) : refTo c a b (c.dirs.length + 3) = refL c a b := rfl
theorem refTo_step (c : Ch) (a b k : Nat) : refTo c a b (k + 1) = refTo c a b k ++ (tellAt c a b (c.low + k + 1)).toList := by
  unfold refTo
  rw [List.range_succ, List.filterMap_append]
  congr 1
def numsTo (c : Ch) (a b k : Nat) : List Nat := (refTo c a b k).flatMap listN
theorem numsTo_no {c : Ch} {a b k : Nat} (h : tellAt c a b (c.low + k + 1) = none) : numsTo c a b (k + 1) = numsTo c a b k := by
  unfold numsTo; rw [refTo_step, h]; simp
theorem numsTo_yes {c : Ch} {a b k x : Nat} (h : tellAt c a b (c.low + k + 1) = some x) : numsTo c a b (k + 1) = numsTo c a b k ++ listN x := by
  unfold numsTo; rw [refTo_step, h, List.flatMap_append]; simp
theorem app_nums {w : World} {B n m : Nat} {v : Value} {xs ys : List Nat} (ho : w.ownsRow B 5 1 v n (xs.map u8v)) (hB : B ≤ w.heap.size) (hn : n ≤ 100000) {A : Option Addr} {c : Nat} (hr : Reads w w.heap.size 1 A m (ys.map u8v)) (hm : m ≤ 1000) :
    ∃ v' w', (Builtin.append_ #[22, 22] 22 #[v, .slice A m c]).run Try.prog w = .ok v' w' ∧ w'.ownsRow B 5 1 v' (n + m) ((xs ++ ys).map u8v) ∧ Below B w w' := by
  have hinf : (Try.prog.info? 5).map (fun i => (i.zero, i.size, i.bytes)) = some (some (.int .u8 0), 1, 1) := by kernel_rfl
  obtain ⟨i, hi, hz, hs, hby⟩ := info_parts hinf
  obtain ⟨v1, w1, h1, o1, g1, _⟩ := run_append_any (P := Try.prog) w B 22 22 5 i (.int .u8 0) 1 1 Try.underlying22 hi hz hs hby rfl (by omega) v n _ ho _ A m c _ hr (one_u8v ys) (by unfold maxLen; omega) (by omega) hB
  rw [← List.map_append] at o1
  exact ⟨v1, w1, h1, o1, (Below.refl B w).grown g1 hB (fun k hk => (ho.lt k hk).1)⟩
set_option linter.unusedVariables false in
set_option maxRecDepth 100000 in
set_option maxHeartbeats 2000000 in
theorem rspan_any (c : Ch) (hc : c.Ok) (A : Option Addr) (u : Value) (a b : Nat) (ha64 : a < 18446744073709551616) (hb64 : b < 18446744073709551616) (w : World) (h : RefC w c A u) : Calls Try.prog 72 #[u, .int .u64 (a : Int), .int .u64 (b : Int)] w fun e w' => e = .returned (.int .u8 (c.span a b : Int)) ∧ Below w.heap.size w w' := by
  have HT := Lib.hid (fun (s : Nat) (hs : s < 18446744073709551616) (W : World) (hb : Below w.heap.size w W) => rat_any c hc A u s hs W (h.below hb))
  obtain ⟨cp, rfl, _, _⟩ := h
  obtain ⟨n, hn⟩ : ∃ n, n = c.dirs.length := ⟨_, rfl⟩
  have hn1 : n ≤ 1000 := by rw [hn]; exact hc.len
  rw [← hn] at HT ⊢
  obtain ⟨lo, hlo⟩ : ∃ lo, lo = c.low := ⟨_, rfl⟩
  have hlob : lo ≤ 4611686018427387904 := by have := hc.up; have := hc.ne; unfold Ch.top at *; omega
  rw [← hlo] at HT ⊢
  have kb := Blk.new w 36 #[.int .u64 (lo : Int), .slice A n cp]
  have bw : Below w.heap.size w (w.alloc (.cells #[.int .u64 (lo : Int), .slice A n cp] 36)) := (Below.refl _ w).alloc (Nat.le_refl _) _
  have hsz : w.heap.size + 1 ≤ (w.alloc (.cells #[.int .u64 (lo : Int), .slice A n cp] 36)).heap.size := by rw [World.alloc, Array.size_push]; exact Nat.le_refl _
  have HN := Lib.hid hn
  have HLO := Lib.hid hlo
  have HBO := Lib.hid hlob
  have HAB := Lib.hid (And.intro ha64 hb64)
  clear hn hlo hlob ha64 hb64
  go_enter Try.func72, Try.ntmps72
  go_wp2_with fail
  go_loopg [7, 8] (n + 3) (fun gk v7 v8 wr => ∃ (i m : Nat) (r : Value), i + gk = n + 3 ∧ v8 = .int .i64 (i : Int) ∧ r = v7 ∧ Hid (m = (numsTo c a b i).length ∧ m ≤ 7 * i) ∧ wr.ownsRow (w.heap.size + 1) 5 1 r m ((numsTo c a b i).map u8v) ∧ Below w.heap.size w wr ∧ Blk wr w.heap.size 36 #[.int .u64 (lo : Int), .slice A n cp] ∧ w.heap.size + 1 ≤ wr.heap.size)
  case atStart => exact ⟨0, 0, _, by omega, rfl, rfl, ⟨rfl, Nat.le_refl _⟩, World.ownsRow_nil _ _ _ _, bw, kb, hsz⟩
  case round =>
    clear bw kb hsz
    obtain ⟨i, m, r, hi, rfl, rfl, HM, ho, bw, kb, hsz⟩ := hrel
    have k0 := kb.cell 0
    have k1 := kb.cell 1
    by_cases h4 : i < n + 3
    · have hk4 : (i : Int) < (n : Int) + 3 := by omega
      obtain ⟨p, hp⟩ : ∃ p, p = lo + i := ⟨_, rfl⟩
      obtain ⟨s, hs⟩ : ∃ s, s = p + 1 := ⟨_, rfl⟩
      have hs64 : s < 18446744073709551616 := by have := HBO.out; omega
      have hw1 : IntKind.u64.wrap (i : Int) = (i : Int) := by rw [IntKind.wrap_u64]; omega
      have hw2 : IntKind.u64.wrap ((lo : Int) + (i : Int)) = (p : Int) := by rw [IntKind.wrap_u64]; omega
      have hw3 : IntKind.u64.wrap ((p : Int) + 1) = (s : Int) := by rw [IntKind.wrap_u64]; omega
      have HA := Lib.hid (HT.out s hs64 wr bw)
      obtain ⟨x, y, hxy⟩ : ∃ x y, c.at_ s = (x, y) := ⟨_, _, rfl⟩
      rw [hxy] at HA
      have HSL : Hid (c.low + i + 1 = s) := by show _ = _; rw [← HLO.out]; omega
      have HX : Hid (x < 128) := by have := at_lt hc s; rw [hxy] at this; exact this
      have HTELL : Hid (tellAt c a b (c.low + i + 1) = if a ≤ s ∧ s ≤ b ∧ y = true then some x else none) := by
        show _ = _
        rw [HSL.out]
        unfold tellAt
        rw [hxy]
      clear hxy hp hs hs64
      go_wp2_with fail
      refine HA.out.mono ?_; rintro e w2 ⟨rfl, B2⟩
      go_upto_region 7 with fail
      have bw2 := bw.trans (B2.mono bw.size)
      have kb2 := kb.below B2 kb.lt
      have ho2 := own1_below ho B2 (fun r hr => (ho.lt r hr).2)
      have hsz2 := Nat.le_trans hsz B2.size
      clear k0 k1 HA hw1 hw2 hw3 bw kb ho hsz B2
      cases y
      · have HE : Hid (numsTo c a b (i + 1) = numsTo c a b i) := numsTo_no (by rw [HTELL.out, if_neg (by simp)])
        go_wp2_with fail
        go_roundg (n + 3 - (i + 1))
        case measure => omega
        case rel => exact ⟨i + 1, m, _, by omega, by go_num, rfl, by rw [HE.out]; exact ⟨HM.out.1, by have := HM.out.2; omega⟩, by rw [HE.out]; exact ho2, bw2, kb2, hsz2⟩
      by_cases h1 : a ≤ s
      rotate_left
      · have h1i : ¬ (a : Int) ≤ (s : Int) := by omega
        have HE : Hid (numsTo c a b (i + 1) = numsTo c a b i) := numsTo_no (by rw [HTELL.out, if_neg (by omega)])
        go_wp2_with fail
        go_roundg (n + 3 - (i + 1))
        case measure => omega
        case rel => exact ⟨i + 1, m, _, by omega, by go_num, rfl, by rw [HE.out]; exact ⟨HM.out.1, by have := HM.out.2; omega⟩, by rw [HE.out]; exact ho2, bw2, kb2, hsz2⟩
      have h1i : (a : Int) ≤ (s : Int) := by omega
      by_cases h2 : s ≤ b
      rotate_left
      · have h2i : ¬ (s : Int) ≤ (b : Int) := by omega
        have HE : Hid (numsTo c a b (i + 1) = numsTo c a b i) := numsTo_no (by rw [HTELL.out, if_neg (by omega)])
        go_wp2_with fail
        go_roundg (n + 3 - (i + 1))
        case measure => omega
        case rel => exact ⟨i + 1, m, _, by omega, by go_num, rfl, by rw [HE.out]; exact ⟨HM.out.1, by have := HM.out.2; omega⟩, by rw [HE.out]; exact ho2, bw2, kb2, hsz2⟩
      have h2i : (s : Int) ≤ (b : Int) := by omega
      have HE : Hid (numsTo c a b (i + 1) = numsTo c a b i ++ listN x) := numsTo_yes (by rw [HTELL.out, if_pos ⟨h1, h2, rfl⟩])
      have hll : (listN x).length ≤ 7 := listTo_len x 7
      obtain ⟨d, hd⟩ : ∃ d, d = (listN x).length := ⟨_, rfl⟩
      have hl0 := list_any x (by have := HX.out; omega) w2
      unfold RetNums at hl0
      rw [← hd] at hll hl0
      have HL := Lib.hid hl0
      have HD := Lib.hid hd
      clear hl0 hd
      go_upto_region 8 with fail
      go_wp2_with fail
      refine HL.out.mono ?_; rintro e w3 ⟨A2, c2, rfl, hr3, B3⟩
      have bw3 := bw2.trans (B3.mono bw2.size)
      have ho3 := own1_below ho2 B3 (fun r hr => (ho2.lt r hr).2)
      have hsz3 := Nat.le_trans hsz2 B3.size
      obtain ⟨r', w4, happ, ho4, hb4⟩ := app_nums (c := c2) ho3 hsz3 (by have := HM.out.2; omega) hr3 (by omega)
      have kb3 := kb2.below B3 kb2.lt
      have kb4 := kb3.below hb4 (Nat.lt_succ_self _)
      have bw4 := bw3.trans (hb4.mono (Nat.le_succ _))
      have hsz4 := Nat.le_trans hsz3 hb4.size
      rw [← HE.out] at ho4
      have HO := Lib.hid ho4
      have HM2 : Hid (m + d = (numsTo c a b (i + 1)).length ∧ m + d ≤ 7 * (i + 1)) := by
        have := HM.out
        refine ⟨?_, by omega⟩
        rw [HE.out, List.length_append, ← HD.out]
        omega
      clear hr3 ho3 ho2 ho4 B3 hb4 kb2 kb3 bw2 bw3 hsz2 hsz3 HL
      go_wp2_with (refine wpList_run_append (by rfl) (.tmp 43) (.tmp 45) 22 (by rfl) (by rfl) (by rfl) happ ?_)
      go_roundg (n + 3 - (i + 1))
      case measure => omega
      case rel => exact ⟨i + 1, m + d, r', by omega, by go_num, rfl, HM2.out, HO.out, bw4, kb4, hsz4⟩
    · have hk4 : ¬ (i : Int) < (n : Int) + 3 := by omega
      obtain rfl : i = n + 3 := by omega
      obtain ⟨A5, c5, hv5, _, hr5⟩ := Byt.own_slice1 ho
      subst hv5
      have HS := Lib.hid (setRef_any A5 m c5 (numsTo c a b (n + 3)) HM.out.1 (by have := HM.out.2; unfold maxLen; omega) wr (nums_reads hr5))
      have HSP : Hid (setN (numsTo c a b (n + 3)) = c.span a b) := by
        show _ = _
        rw [HN.out]
        exact span_ref hc a b
      rw [HSP.out] at HS
      clear hr5 ho
      go_wp2_with fail
      refine HS.out.mono ?_; rintro e w2 ⟨rfl, rfl⟩
      go_wp2_with fail
      go_ret
      exact ⟨rfl, bw⟩
end Go.Proofs.Ytbamfnlgapchkaa.Chn
