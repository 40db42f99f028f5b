/- The reference of a chain, walked: Directory, New, Top, Push, At, Tail, Release. Conditions: the lists can be read. -/
import Derived.Test.YtbamfnlgapchkaaChWakes
namespace Go.Proofs.Ytbamfnlgapchkaa.Chn
open Go.RowKit Mem DrawInv

theorem size_rc : (Try.prog.info? 36).map (·.size) = some 2 := by kernel_rfl
theorem elem_tb : Try.prog.elem 22 = 5 := by kernel_rfl
theorem ht_tb : Try.prog.underlying 22 = some (.slice (Try.prog.elem 22)) := by rw [elem_tb]; exact Try.underlying22
theorem size_tb (w : World) : (sizeOf (Try.prog.elem 22)).run Try.prog w = .ok 1 w := by rw [elem_tb]; kernel_rfl
theorem slb_from (a : Option Addr) (n cap l : Nat) (hl : l ≤ n) (_hn : n ≤ cap) (w : World) : (Instr.slice 22 (.slice a n cap) (some (.int .i64 (l : Int))) none none).run Try.prog w = .ok (.slice (cut1 a l cap) (n - l) (cap - l)) w := by
  rw [run_slice_l w 22 a n cap ht_tb .i64 (l : Int) (by omega) (by omega), size_tb]
  simp only [Result.andThen, sliced, Int.toNat_natCast, cut1]
/-- The reference's chain, a value with a list in memory. -/
def RefC (w : World) (c : Ch) (A : Option Addr) (u : Value) : Prop := ∃ cp, u = .agg #[.int .u64 (c.low : Int), .slice A c.dirs.length cp] ∧ c.dirs.length ≤ cp ∧ Reads w w.heap.size 1 A c.dirs.length (c.dirs.map u8v)
theorem RefC.below {w w' : World} {c : Ch} {A : Option Addr} {u : Value} (h : RefC w c A u) (hb : Below w.heap.size w w') : RefC w' c A u := by
  obtain ⟨cp, e, h1, h2⟩ := h
  exact ⟨cp, e, h1, (h2.below hb).more hb.size⟩
/-- Where a list that is handed back lies: where the old one lay, or in new memory. -/
def FromA (w : World) (A A' : Option Addr) : Prop := ∀ ad', A' = some ad' → (∃ ad, A = some ad ∧ ad.block = ad'.block) ∨ w.heap.size ≤ ad'.block
theorem FromA.refl (w : World) (A : Option Addr) : FromA w A A := fun ad h => .inl ⟨ad, h, rfl⟩
theorem rdir_any (s : Nat) (w : World) : Calls Try.prog 71 #[.int .u8 (s : Int)] w fun e w' => e = .returned (.bool (dirB s)) ∧ w = w' := by
  have hd : dirB s = decide (0 < s ∧ s < 128) := rfl
  by_cases h1 : s < 128
  · have h1i : (s : Int) < 128 := by omega
    by_cases h2 : 0 < s
    · have h2i : (0 : Int) < (s : Int) := by omega
      have hk : decide (0 < s) = true := decide_eq_true h2
      rw [hd, decide_eq_true ⟨h2, h1⟩]
      clear hd h1 h2
      go_enter Try.func71, Try.ntmps71
      go_wp2_with fail
      go_ret
      exact ⟨rfl, rfl⟩
    · have h2i : ¬ (0 : Int) < (s : Int) := by omega
      have hk : decide (0 < s) = false := decide_eq_false h2
      rw [hd, decide_eq_false (by omega)]
      clear hd h1 h2
      go_enter Try.func71, Try.ntmps71
      go_wp2_with fail
      go_ret
      exact ⟨rfl, rfl⟩
  · have h1i : ¬ (s : Int) < 128 := by omega
    rw [hd, decide_eq_false (by omega)]
    clear hd h1
    go_enter Try.func71, Try.ntmps71
    go_wp2_with fail
    go_ret
    exact ⟨rfl, rfl⟩
theorem rtop_any (c : Ch) (hne : 0 < c.dirs.length) (hup : c.top ≤ 4611686018427387904) (hlen : c.dirs.length ≤ 1000) (A : Option Addr) (u : Value) (w : World) (h : RefC w c A u) : Calls Try.prog 32 #[u] w fun e w' => e = .returned (.int .u64 (c.top : Int)) ∧ Below w.heap.size w w' := by
  obtain ⟨cp, rfl, _, _⟩ := h
  obtain ⟨n, hn⟩ : ∃ n, n = c.dirs.length := ⟨_, rfl⟩
  have htp : c.top = c.low + n - 1 := by rw [hn]; rfl
  obtain ⟨t, ht⟩ : ∃ t, t = c.top := ⟨_, rfl⟩
  rw [← ht] at hup htp ⊢
  rw [← hn] at hne hlen ⊢
  generalize c.low = lo at *
  obtain ⟨m, hm⟩ : ∃ m, m = lo + n := ⟨_, rfl⟩
  have hw1 : IntKind.u64.wrap ((lo : Int) + (n : Int)) = (m : Int) := by rw [IntKind.wrap_u64]; omega
  have hw2 : IntKind.u64.wrap ((m : Int) - 1) = (t : Int) := by rw [IntKind.wrap_u64]; omega
  have hw3 : IntKind.u64.wrap (n : Int) = (n : Int) := by rw [IntKind.wrap_u64]; omega
  have kb := Blk.new w 36 #[.int .u64 (lo : Int), .slice A n cp]
  have k0 := kb.cell 0
  have k1 := kb.cell 1
  have bw : Below w.heap.size w (w.alloc (.cells #[.int .u64 (lo : Int), .slice A n cp] 36)) := (Below.refl _ w).alloc (Nat.le_refl _) _
  clear hn htp ht hm hup hlen hne kb
  go_enter Try.func32, Try.ntmps32
  go_wp2_with fail
  go_ret
  exact ⟨rfl, bw⟩
set_option maxRecDepth 100000 in
set_option maxHeartbeats 2000000 in
theorem rat_any (c : Ch) (hc : c.Ok) (A : Option Addr) (u : Value) (slot : Nat) (hs64 : slot < 18446744073709551616) (w : World) (h : RefC w c A u) : Calls Try.prog 73 #[u, .int .u64 (slot : Int)] w fun e w' => e = .returned (.tuple #[.int .u8 ((c.at_ slot).1 : Int), .bool (c.at_ slot).2]) ∧ Below w.heap.size w w' := by
  have HS := Lib.hid hs64
  clear hs64
  have HT := Lib.hid (fun (W : World) (hb : Below w.heap.size w W) => rtop_any c hc.ne hc.up hc.len A u W (h.below hb))
  obtain ⟨cp, rfl, _, hr⟩ := h
  obtain ⟨n, hn⟩ : ∃ n, n = c.dirs.length := ⟨_, rfl⟩
  rw [← hn] at HT hr ⊢
  obtain ⟨a, ha⟩ : ∃ a, a = slot - 3 := ⟨_, rfl⟩
  obtain ⟨lo, hlo⟩ : ∃ lo, lo = c.low := ⟨_, rfl⟩
  obtain ⟨tp, htp⟩ : ∃ tp, tp = c.top := ⟨_, rfl⟩
  have htn : tp = lo + n - 1 := by rw [htp, hlo, hn]; rfl
  have hn0 : 0 < n := by rw [hn]; exact hc.ne
  rw [← hlo, ← htp] at HT
  rw [← hlo]
  have kb := Blk.new w 36 #[.int .u64 (lo : Int), .slice A n cp]
  have bw : Below w.heap.size w (w.alloc (.cells #[.int .u64 (lo : Int), .slice A n cp] 36)) := (Below.refl _ w).alloc (Nat.le_refl _) _
  have hr1 := hr.below bw
  have k0 := kb.cell 0
  have k1 := kb.cell 1
  have HA : Hid (a = slot - 3) := Lib.hid ha
  have hs3 : Hid (slot < 18446744073709551616) := HS
  have HNN := Lib.hid hn
  have HLL := Lib.hid hlo
  have HTT := Lib.hid htp
  clear hn hlo htp ha
  go_enter Try.func73, Try.ntmps73
  go_upto_if 8 with fail
  go_cut [6] (fun s6 wx => s6 = .int .u64 (a : Int) ∧ wx = w.alloc (.cells #[.int .u64 (lo : Int), .slice A n cp] 36))
  case first =>
    clear HT hr hr1 kb htn k0 k1 bw
    by_cases h3 : 3 < slot
    · have h3i : (3 : Int) < (slot : Int) := by omega
      have hw3 : IntKind.u64.wrap ((slot : Int) - 3) = (a : Int) := by rw [IntKind.wrap_u64, HA.out]; have := hs3.out; omega
      go_wp2_with fail
      go_meet
      exact ⟨rfl, rfl⟩
    · have h3i : ¬ (3 : Int) < (slot : Int) := by omega
      have hz : Hid ((0 : Int) = (a : Int)) := by show _ = _; rw [HA.out]; omega
      go_wp2_with fail
      go_meet
      exact ⟨by rw [hz.out], rfl⟩
  case rest =>
    obtain ⟨rfl, rfl⟩ := hcut
    by_cases h0 : slot = 0
    · have HX := Lib.hid (at_no (c := c) (.inl h0))
      have hne : ((slot : Int) == 0) = true := beq_iff_eq.2 (by omega)
      clear HT hr hr1 kb htn
      go_wp2_with fail
      rw [HX.out]
      exact bodyPost_ret (v := .tuple #[.int .u8 0, .bool false]) (by simp [results, Try.results73]) rfl ⟨rfl, bw⟩
    have hne : ((slot : Int) == 0) = false := beq_eq_false_iff_ne.2 (by omega)
    by_cases h1 : a < lo
    · have hx : c.at_ slot = (0, false) := at_no (.inr (.inl (by rw [← HLL.out, ← HA.out]; exact h1)))
      have HX := Lib.hid hx
      have h1i : (a : Int) < (lo : Int) := by omega
      clear HT hr hr1 kb htn hx
      go_wp2_with fail
      rw [HX.out]
      exact bodyPost_ret (v := .tuple #[.int .u8 0, .bool false]) (by simp [results, Try.results73]) rfl ⟨rfl, bw⟩
    have h1i : ¬ (a : Int) < (lo : Int) := by omega
    by_cases h2 : tp < a
    · have hx : c.at_ slot = (0, false) := at_no (.inr (.inr (by rw [← HTT.out, ← HA.out]; exact h2)))
      have HX := Lib.hid hx
      have h2i : (tp : Int) < (a : Int) := by omega
      have HT1 := Lib.hid (HT.out _ bw)
      clear HT hr hr1 kb htn hx
      go_wp2_with fail
      refine HT1.out.mono ?_; rintro e w2 ⟨rfl, B2⟩
      have bz := bw.trans (B2.mono bw.size)
      clear k0 k1
      go_wp2_with fail
      rw [HX.out]
      exact bodyPost_ret (v := .tuple #[.int .u8 0, .bool false]) (by simp [results, Try.results73]) rfl ⟨rfl, bz⟩
    have h2i : ¬ (tp : Int) < (a : Int) := by omega
    have hx := at_yes (c := c) h0 (by rw [← HLL.out, ← HA.out]; omega) (by rw [← HTT.out, ← HA.out]; omega)
    have HX := Lib.hid hx
    obtain ⟨j, hj⟩ : ∃ j, j = a - lo := ⟨_, rfl⟩
    have hjn : j < n := by omega
    obtain ⟨ad, u, rfl, hadl, hu, hcell⟩ := hr.at_ hjn
    have hs' : u = .int .u8 ((c.dirs.getD (slot - 3 - c.low) 0 : Nat) : Int) := by
      rw [List.getElem?_map] at hu
      rw [← HA.out, ← HLL.out, ← hj, List.getD_eq_getElem?_getD]
      cases hd : c.dirs[j]? with
      | none => rw [hd] at hu; cases hu
      | some x => rw [hd] at hu; exact (Option.some.inj hu).symm
    subst hs'
    obtain ⟨sv, hsv⟩ : ∃ sv, sv = c.dirs.getD (slot - 3 - c.low) 0 := ⟨_, rfl⟩
    rw [← hsv] at HX hcell
    clear hsv
    have hw4 : IntKind.u64.wrap ((a : Int) - (lo : Int)) = (j : Int) := by rw [IntKind.wrap_u64]; have := hc.up; rw [← HTT.out] at this; omega
    have hjni : (j : Int) < (n : Int) := by omega
    have HT1 := Lib.hid (HT.out _ bw)
    clear HT hr hr1 htn hx hu hj
    go_wp2_with fail
    refine HT1.out.mono ?_; rintro e w2 ⟨rfl, B2⟩
    have bz := bw.trans (B2.mono bw.size)
    have kb2 := kb.below B2 kb.lt
    have k0 := kb2.cell 0
    have k1 := kb2.cell 1
    have q0 := (bz.cell (p := ad.add j) (by rw [block_of_add]; exact hadl)).trans hcell
    clear kb
    go_wp2_with fail
    rw [HX.out]
    exact bodyPost_ret (v := .tuple #[.int .u8 (sv : Int), .bool true]) (by simp [results, Try.results73]) rfl ⟨rfl, bz⟩
end Go.Proofs.Ytbamfnlgapchkaa.Chn
