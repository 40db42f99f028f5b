/- Package chain, walked: Tail, Of. Conditions: the chain lies in memory of its own. -/
import Derived.Test.YtbamfnlgapchkaaChX
namespace Go.Proofs.Ytbamfnlgapchkaa.Chn
open Go.RowKit Mem DrawInv

theorem tail_len (c : Ch) {n : Nat} (hn : c.dirs.length = n) : c.tail.length = n - (n - 3) := by unfold Ch.tail; rw [List.length_drop, hn]
theorem tail_lt {c : Ch} (hc : c.Ok) : ∀ x ∈ c.tail, x < 256 := fun x hx => by
  have := hc.dir x (List.mem_of_mem_drop hx)
  unfold dirB at this
  have := of_decide_eq_true this
  omega
set_option linter.unusedVariables false in
set_option linter.unusedSimpArgs false in
set_option maxRecDepth 100000 in
set_option maxHeartbeats 2000000 in
theorem tail_any {B g : Nat} {c : Ch} {v : Value} {w : World} (q : ChS B g c v w) : Calls Try.prog 27 #[.pointer (some ⟨g, 0, none⟩)] w fun e w' => e = .returned (.string ⟨(Byt.by8 c.tail).toArray⟩) ∧ Below w.heap.size w w' := by
  obtain ⟨A, n, cp, rfl, HN, hnc, hn0, hn1, hr⟩ := q.slice
  have HLT := Lib.hid (tail_lt q.ok)
  have htl := tail_len c HN.out
  obtain ⟨k0, hk0⟩ : ∃ k0, k0 = n - 3 := ⟨_, rfl⟩
  have hrt := cut1_reads (l := k0) hr (by omega) hnc
  have hct : c.dirs.drop k0 = c.tail := by unfold Ch.tail; rw [HN.out, hk0]
  rw [hct] at hrt
  rw [← hk0] at htl
  have h19 := fun W => sl_from A n cp k0 (by omega) hnc W
  have hmx : max ((n : Int) - 3) 0 = (k0 : Int) := by omega
  have hw1 : IntKind.i64.wrap ((n : Int) - 3) = (n : Int) - 3 := by rw [IntKind.wrap_i64]; omega
  obtain ⟨m, hm⟩ : ∃ m, m = n - k0 := ⟨_, rfl⟩
  have hm3 : m ≤ 3 := by omega
  obtain ⟨cT, hcT⟩ : ∃ cT, cT = cp - k0 := ⟨_, rfl⟩
  obtain ⟨AT, hAT⟩ : ∃ AT, AT = cut1 A k0 cp := ⟨_, rfl⟩
  rw [← hm, ← hAT] at hrt
  rw [← hm] at htl
  simp only [← hm, ← hcT, ← hAT] at h19
  have kg : Blk w.drew g 107 #[.int .u64 (c.low : Int), .slice A n cp] := q.hg
  generalize c.low = lo at kg
  have HRT : Hid (Reads w w.heap.size 1 AT m (c.tail.map u8v)) := hrt
  have HTL := Lib.hid htl
  obtain ⟨t, ht⟩ : ∃ t, t = c.tail := ⟨_, rfl⟩
  rw [← ht] at HLT HRT HTL ⊢
  clear q hr HN hrt hct htl hk0 hm hcT hAT ht hnc
  go_enter Try.func27, Try.ntmps27
  go_upto_region 4 with fail
  refine region_inv2 (by kernel_rfl) [] [(8, .pointer (some ⟨g, 0, none⟩)), (9, .pointer (some ⟨g, 0, none⟩)), (10, .pointer (some ⟨g, 1, none⟩)), (11, .slice A n cp), (12, .pointer (some ⟨g, 0, none⟩)), (13, .pointer (some ⟨g, 0, none⟩)), (14, .pointer (some ⟨g, 1, none⟩)), (15, .slice A n cp), (16, .int .i64 (n : Int)), (17, .int .i64 ((n : Int) - 3)), (18, .int .i64 (k0 : Int)), (19, .slice AT m cT), (20, .int .i64 (m : Int)), (21, .int .i64 0)] (by kernel_rfl) (by kernel_rfl) rfl (by kernel_rfl) ?_ ?_ ?_
  · intro q hq; cases hq
  · refine And.intro ?_ ?_
    · intro d hd ρ W hcs bw hn hg
      cases hd
      have e0 : ρ (.tmp 0) = .pointer (some ⟨g, 0, none⟩) := hn 0 (by decide)
      clear hn hg
      refine .inl ⟨trivial, ?_⟩
      refine .inl ⟨_, W, rfl, e0, Below.refl _ _⟩
    refine And.intro ?_ ?_
    · intro d hd ρ W hcs bw hn hg
      cases hd
      have e8 : ρ (.tmp 8) = .pointer (some ⟨g, 0, none⟩) := hn 8 (by decide)
      clear hn hg
      refine .inl ⟨trivial, ?_⟩
      refine .inl ⟨.pointer (some ⟨g, 0, none⟩), W, ?_, rfl, Below.refl _ _⟩
      go_simp
    refine And.intro ?_ ?_
    · intro d hd ρ W hcs bw hn hg
      cases hd
      have e9 : ρ (.tmp 9) = .pointer (some ⟨g, 0, none⟩) := hn 9 (by decide)
      clear hn hg
      refine .inl ⟨trivial, ?_⟩
      refine .inl ⟨.pointer (some ⟨g, 1, none⟩), W, ?_, rfl, Below.refl _ _⟩
      go_simp
    refine And.intro ?_ ?_
    · intro d hd ρ W hcs bw hn hg
      cases hd
      have e10 : ρ (.tmp 10) = .pointer (some ⟨g, 1, none⟩) := hn 10 (by decide)
      clear hn hg
      refine .inl ⟨trivial, ?_⟩
      have z0 : W.cell? ⟨g, 1, none⟩ = some (.slice A n cp) := (Blk.below kg bw (Blk.lt kg)).cell 1
      refine .inl ⟨.slice A n cp, W, ?_, rfl, Below.refl _ _⟩
      go_simp
    refine And.intro ?_ ?_
    · intro d hd ρ W hcs bw hn hg
      cases hd
      have e0 : ρ (.tmp 0) = .pointer (some ⟨g, 0, none⟩) := hn 0 (by decide)
      clear hn hg
      refine .inl ⟨trivial, ?_⟩
      refine .inl ⟨_, W, rfl, e0, Below.refl _ _⟩
    refine And.intro ?_ ?_
    · intro d hd ρ W hcs bw hn hg
      cases hd
      have e12 : ρ (.tmp 12) = .pointer (some ⟨g, 0, none⟩) := hn 12 (by decide)
      clear hn hg
      refine .inl ⟨trivial, ?_⟩
      refine .inl ⟨.pointer (some ⟨g, 0, none⟩), W, ?_, rfl, Below.refl _ _⟩
      go_simp
    refine And.intro ?_ ?_
    · intro d hd ρ W hcs bw hn hg
      cases hd
      have e13 : ρ (.tmp 13) = .pointer (some ⟨g, 0, none⟩) := hn 13 (by decide)
      clear hn hg
      refine .inl ⟨trivial, ?_⟩
      refine .inl ⟨.pointer (some ⟨g, 1, none⟩), W, ?_, rfl, Below.refl _ _⟩
      go_simp
    refine And.intro ?_ ?_
    · intro d hd ρ W hcs bw hn hg
      cases hd
      have e14 : ρ (.tmp 14) = .pointer (some ⟨g, 1, none⟩) := hn 14 (by decide)
      clear hn hg
      refine .inl ⟨trivial, ?_⟩
      have z0 : W.cell? ⟨g, 1, none⟩ = some (.slice A n cp) := (Blk.below kg bw (Blk.lt kg)).cell 1
      refine .inl ⟨.slice A n cp, W, ?_, rfl, Below.refl _ _⟩
      go_simp
    refine And.intro ?_ ?_
    · intro d hd ρ W hcs bw hn hg
      cases hd
      have e15 : ρ (.tmp 15) = .slice A n cp := hn 15 (by decide)
      clear hn hg
      refine .inl ⟨trivial, ?_⟩
      refine .inl ⟨.int .i64 (n : Int), W, ?_, rfl, Below.refl _ _⟩
      go_simp
    refine And.intro ?_ ?_
    · intro d hd ρ W hcs bw hn hg
      cases hd
      have e16 : ρ (.tmp 16) = .int .i64 (n : Int) := hn 16 (by decide)
      clear hn hg
      refine .inl ⟨trivial, ?_⟩
      have hc1 := hcs.1
      refine .inl ⟨.int .i64 ((n : Int) - 3), W, ?_, rfl, Below.refl _ _⟩
      go_simp
    refine And.intro ?_ ?_
    · intro d hd ρ W hcs bw hn hg
      cases hd
      have e17 : ρ (.tmp 17) = .int .i64 ((n : Int) - 3) := hn 17 (by decide)
      clear hn hg
      refine .inl ⟨trivial, ?_⟩
      have hc1 := hcs.1
      refine .inl ⟨.int .i64 (k0 : Int), W, ?_, rfl, Below.refl _ _⟩
      go_simp
    refine And.intro ?_ ?_
    · intro d hd ρ W hcs bw hn hg
      cases hd
      have e11 : ρ (.tmp 11) = .slice A n cp := hn 11 (by decide)
      have e18 : ρ (.tmp 18) = .int .i64 (k0 : Int) := hn 18 (by decide)
      clear hn hg
      refine .inl ⟨trivial, ?_⟩
      refine .inl ⟨.slice AT m cT, W, ?_, rfl, Below.refl _ _⟩
      exact exec_slice (t := 105) (x := .tmp 11) (lo := some (.tmp 18)) (hi := none) (mx := none) (by rfl) ht_sl e11 (by rw [Option.map_some, e18]) rfl rfl (h19 W)
    refine And.intro ?_ ?_
    · intro d hd ρ W hcs bw hn hg
      cases hd
      have e19 : ρ (.tmp 19) = .slice AT m cT := hn 19 (by decide)
      clear hn hg
      refine .inl ⟨trivial, ?_⟩
      refine .inl ⟨.int .i64 (m : Int), W, ?_, rfl, Below.refl _ _⟩
      go_simp
    refine And.intro ?_ ?_
    · intro d hd ρ W hcs bw hn hg
      cases hd
      clear hn hg
      refine .inl ⟨trivial, ?_⟩
      refine .inl ⟨_, W, rfl, hcs.1 _, Below.refl _ _⟩
    trivial
  · intro a' w' hsz hdf hb hVs
    have q19 : a'.eval (.tmp 19) = .slice AT m cT := hVs 19
    have q20 : a'.eval (.tmp 20) = .int .i64 (m : Int) := hVs 20
    have q21 : a'.eval (.tmp 21) = .int .i64 0 := hVs 21
    have ha := slot_over_seg 8 14 [] rfl (by kernel_rfl) (of_decide_eq_true (by kernel_rfl)) hsz hdf hVs
    clear hVs hsz hdf
    rw [show List.range' 8 14 = [8, 9, 10, 11, 12, 13, 14, 15, 16, 17, 18, 19, 20, 21] from rfl] at ha
    simp only [List.take_succ_cons, List.take_zero, List.drop_succ_cons, List.drop_zero, List.map_cons, List.map_nil, List.cons_append, List.nil_append, List.foldl_cons, List.foldl_nil, List.set_cons_zero, List.set_cons_succ, q19, q20, q21] at ha
    clear q19 q20 q21
    generalize a'.eval (.tmp 8) = x8 at ha
    generalize a'.eval (.tmp 9) = x9 at ha
    generalize a'.eval (.tmp 10) = x10 at ha
    generalize a'.eval (.tmp 11) = x11 at ha
    generalize a'.eval (.tmp 12) = x12 at ha
    generalize a'.eval (.tmp 13) = x13 at ha
    generalize a'.eval (.tmp 14) = x14 at ha
    generalize a'.eval (.tmp 15) = x15 at ha
    generalize a'.eval (.tmp 16) = x16 at ha
    generalize a'.eval (.tmp 17) = x17 at ha
    generalize a'.eval (.tmp 18) = x18 at ha
    subst ha
    have bw : Below w.heap.size w w' := (below_drewN (Below.refl _ w) 1).trans (hb.mono (Nat.le_refl _))
    clear hb kg h19 hmx hw1
    obtain ⟨w1, hw1⟩ : ∃ w1 : World, w1 = w' := ⟨_, rfl⟩
    rw [← hw1] at bw ⊢
    clear hw1
    go_wp2_with fail
    go_loopg [3, 21] m (fun gk v3 v21 wr => ∃ (j : Nat) (r : Value), j + gk = m ∧ v21 = .int .i64 (j : Int) ∧ r = v3 ∧ wr.ownsRow w.heap.size 5 1 r j ((t.take j).map u8v) ∧ Below w.heap.size w wr)
    case atStart => exact ⟨0, _, by omega, rfl, rfl, World.ownsRow_nil _ _ _ _, bw⟩
    case round =>
      clear bw
      obtain ⟨j, r, hj, rfl, rfl, ho, bw⟩ := hrel
      by_cases h4 : j < m
      · have hk4 : (j : Int) < (m : Int) := by omega
        obtain ⟨ad, x, rfl, hadl, hx, hcell⟩ := HRT.out.at_ h4
        obtain ⟨y, hy, hyx⟩ : ∃ y, t[j]? = some y ∧ x = .int .u8 (y : Int) := by
          rw [List.getElem?_map] at hx
          cases hd : t[j]? with
          | none => rw [hd] at hx; cases hx
          | some y => rw [hd] at hx; exact ⟨y, rfl, (Option.some.inj hx).symm⟩
        subst hyx
        have q0 := (bw.cell (p := ad.add j) (by rw [block_of_add]; exact hadl)).trans hcell
        obtain ⟨r', w2, happ, ho2, hb2⟩ := Byt.app_byte ho bw.size (by omega) y
        have he : (t.take (j + 1)).map u8v = (t.take j).map u8v ++ [.int .u8 (y : Int)] := by rw [List.take_add_one, hy, List.map_append]; rfl
        rw [← he] at ho2
        have HO := Lib.hid (And.intro ho2 (bw.trans hb2))
        clear hcell hx hy he ho ho2 hb2 bw
        go_wp2_with (refine wpList_run_append (by rfl) (.tmp 25) (.tmp 27) 22 (by rfl) (by rfl) (by rfl) happ ?_)
        go_roundg (m - (j + 1))
        case measure => omega
        case rel => exact ⟨j + 1, r', by omega, by go_num, rfl, HO.out.1, HO.out.2⟩
      · have hk4 : ¬ (j : Int) < (m : Int) := by omega
        obtain rfl : m = j := by omega
        rw [List.take_of_length_le (by rw [HTL.out]; omega)] at ho
        obtain ⟨A5, c5, hv5, _, hr5⟩ := Byt.own_slice1 ho
        subst hv5
        have hbv := Byt.by8_bv HLT.out
        have hcv := Byt.conv_str Try.underlying22 Try.underlying5 Try.underlying9 (l := Byt.by8 t) c5 (by rw [hbv]; exact hr5)
        clear hbv hr5 ho HRT
        go_wp2_with fail
        go_ret
        exact ⟨rfl, bw⟩
/-- What Of hands back. -/
def OfRet (w : World) (top : Nat) (tail : List Nat) (e : Ending) (w' : World) : Prop :=
  (ofOk top tail = true ∧ ∃ g v, e = .returned (.tuple #[.pointer (some ⟨g, 0, none⟩), .int .i64 0]) ∧ ChS w.heap.size g (ofCh top tail) v w') ∨ (ofOk top tail = false ∧ e = .returned (.tuple #[.pointer none, .int .i64 2]))
set_option linter.unusedVariables false in
set_option maxRecDepth 1000000 in
set_option maxHeartbeats 2000000 in
theorem of_any (top : Nat) (ht64 : top < 18446744073709551616) (t8 : List UInt8) (hl8 : t8.length ≤ 9223372036854775807) (w : World) : Calls Try.prog 19 #[.int .u64 (top : Int), .string ⟨t8.toArray⟩] w fun e w' => OfRet w top (t8.map UInt8.toNat) e w' ∧ Below w.heap.size w w' := by
  have hsz := Byt.size_str t8
  obtain ⟨t, ht⟩ : ∃ t, t = t8.map UInt8.toNat := ⟨_, rfl⟩
  have htl : t.length = t8.length := by rw [ht, List.length_map]
  rw [← ht]
  obtain ⟨n, hn⟩ : ∃ n, n = t8.length := ⟨_, rfl⟩
  rw [← hn] at hsz htl hl8
  have hwn : IntKind.u64.wrap (n : Int) = (n : Int) := by rw [IntKind.wrap_u64]; omega
  by_cases h1 : 4611686018427387904 < top
  · have h1i : ((4611686018427387904 : Int) < (top : Int)) = True := eq_true (by omega)
    have hno : ofOk top t = false := by unfold ofOk; rw [decide_eq_false (by omega)]; rfl
    have HQ : Hid (∀ w', OfRet w top t (.returned (.tuple #[.pointer none, .int .i64 2])) w') := fun w' => .inr ⟨hno, rfl⟩
    clear h1 ht64 hno ht hn htl hl8
    go_enter Try.func19, Try.ntmps19
    go_wp2_with fail
    exact bodyPost_ret (v := .tuple #[.pointer none, .int .i64 2]) (by simp [results, Try.results19]) rfl ⟨HQ.out _, Below.refl _ _⟩
  have h1i : ((4611686018427387904 : Int) < (top : Int)) = False := eq_false (by omega)
  have hw1 : IntKind.u64.wrap ((top : Int) + 1) = (top : Int) + 1 := by rw [IntKind.wrap_u64]; omega
  obtain ⟨mn, hmn⟩ : ∃ mn, min ((top : Int) + 1) 3 = mn := ⟨_, rfl⟩
  by_cases h2 : n = min (top + 1) 3
  rotate_left
  · have h2i : ((n : Int) != mn) = true := by rw [bne_iff_ne]; omega
    have hno : ofOk top t = false := by unfold ofOk; rw [decide_eq_false (by rw [htl]; omega)]; rfl
    have HQ : Hid (∀ w', OfRet w top t (.returned (.tuple #[.pointer none, .int .i64 2])) w') := fun w' => .inr ⟨hno, rfl⟩
    clear h1 ht64 hno ht hn htl hl8
    go_enter Try.func19, Try.ntmps19
    go_wp2_with fail
    exact bodyPost_ret (v := .tuple #[.pointer none, .int .i64 2]) (by simp [results, Try.results19]) rfl ⟨HQ.out _, Below.refl _ _⟩
  have h2i : ((n : Int) != mn) = false := by rw [bne_eq_false_iff_eq]; omega
  obtain ⟨lw, hlw⟩ : ∃ lw, lw = top + 1 - n := ⟨_, rfl⟩
  have hw2 : IntKind.u64.wrap ((top : Int) + 1 - (n : Int)) = (lw : Int) := by rw [IntKind.wrap_u64]; omega
  have hn3 : n ≤ 3 := by omega
  have hn0 : 0 < n := by omega
  have hok : ofOk top t = t.all dirB := by unfold ofOk; rw [decide_eq_true (by rw [htl]; omega)]; rfl
  have hch : ofCh top t = ⟨lw, t⟩ := by unfold ofCh; rw [htl, ← hlw]
  have HOK := Lib.hid hok
  have HCH := Lib.hid hch
  have HT := Lib.hid ht
  have HTL := Lib.hid htl
  have kn := Blk.new w 107 #[.int .u64 (lw : Int), .slice none 0 0]
  have bw : Below w.heap.size w (w.alloc (.cells #[.int .u64 (lw : Int), .slice none 0 0] 107)) := (Below.refl _ w).alloc (Nat.le_refl _) _
  clear h1 h2 ht64 hok hch ht hn htl hlw hl8
  go_enter Try.func19, Try.ntmps19
  go_upto_region 4 with fail
  obtain ⟨g, hg⟩ : ∃ g, g = w.heap.size := ⟨_, rfl⟩
  rw [← hg] at kn ⊢
  have HG := Lib.hid hg
  clear hg h1i hw1 hwn hmn h2i hw2
  generalize w.alloc (.cells #[.int .u64 (lw : Int), .slice none 0 0] 107) = w1 at *
  go_wp2_with fail
  go_loopg [30] n (fun gk v30 wr => ∃ (j : Nat) (r : Value), j + gk = n ∧ v30 = .int .i64 (j : Int) ∧ Blk wr g 107 #[.int .u64 (lw : Int), r] ∧ wr.ownsRow w.heap.size 27 1 r j ((t.take j).map u8v) ∧ Hid ((t.take j).all dirB = true) ∧ Below w.heap.size w wr)
  case atStart => exact ⟨0, _, by omega, rfl, kn, World.ownsRow_nil _ _ _ _, rfl, bw⟩
  case round =>
    clear kn bw
    obtain ⟨j, r, hj, rfl, kg, ho, HA, bw⟩ := hrel
    by_cases h4 : j < n
    · have hk4 : (j : Int) < (n : Int) := by omega
      have hk0 : (0 : Int) ≤ (j : Int) := by omega
      have hj8 : j < t8.length := by have h := HTL.out; rw [HT.out, List.length_map] at h; omega
      obtain ⟨b, hb⟩ : ∃ b, t8[j]? = some b := ⟨_, List.getElem?_eq_getElem hj8⟩
      have hzz : j < (ByteArray.mk t8.toArray).size := by rw [Byt.size_str]; exact hj8
      have hix := Byt.index_at t8 j b hb hzz
      have htj : t[j]? = some b.toNat := by rw [HT.out, List.getElem?_map, hb]; rfl
      have hlt := b.toNat_lt
      obtain ⟨x, hx⟩ : ∃ x, x = b.toNat := ⟨_, rfl⟩
      rw [← hx] at htj
      have hxb : b.toNat = x := hx.symm
      have HD := Lib.hid (fun W => dir_any x (by omega) W)
      have htk : t.take (j + 1) = t.take j ++ [x] := by rw [List.take_add_one, htj]; rfl
      cases hd : dirB x
      · have hno : ofOk top t = false := by
          rw [HOK.out, List.all_eq_false]
          exact ⟨x, List.mem_of_getElem? htj, by rw [hd]; decide⟩
        have HQ : Hid (∀ w', OfRet w top t (.returned (.tuple #[.pointer none, .int .i64 2])) w') := fun w' => .inr ⟨hno, rfl⟩
        rw [hd] at HD
        clear hno htk htj hb hj8 hx ho kg hlt
        go_wp2_with fail
        refine (HD.out _).mono ?_; rintro e w2 ⟨rfl, rfl⟩
        go_wp2_with fail
        exact bodyPost_ret (v := .tuple #[.pointer none, .int .i64 2]) (by simp [results, Try.results19]) rfl ⟨HQ.out _, bw⟩
      · rw [hd] at HD
        have HA2 : Hid ((t.take (j + 1)).all dirB = true) := by show _ = _; rw [htk, List.all_append, HA.out]; simp [hd]
        obtain ⟨r', w3, happ, ho3, hO3, hnw3⟩ := app_set ho bw.size (by omega) x
        obtain ⟨A', k', hv', _⟩ := Byt.own_slice1 ho3
        subst hv'
        obtain ⟨A0, k9, hv0, _⟩ := Byt.own_slice1 ho
        subst hv0
        have hne := own_blk_ne ho kg (by decide)
        have hg3 := hO3.blk kg (fun hm => hne (by simpa using hm))
        obtain ⟨w4, hst, hg4, hgr⟩ := store_row hg3 A' (j + 1) k'
        have ho4 := own1_grown ho3 hgr (fun q hq he => by
          rcases hnw3 q hq with h | h
          · exact hne (h.trans he.symm)
          · have := kg.lt
            have := Option.some.inj he
            omega)
        rw [← htk] at ho4
        have bw4 : Below w.heap.size w w4 := by
          have b3 : Below w.heap.size w w3 := bw.trans (hO3.below bw.size (fun q hq => (ho.lt q (by simpa using hq)).1))
          exact b3.grown hgr b3.size (fun q hq => by cases hq; rw [HG.out]; exact Nat.le_refl _)
        have g1 := kg.cell 1
        have HF := Lib.hid (And.intro hg4 (And.intro ho4 bw4))
        clear htk htj hb hj8 hx ho kg hlt ho3 hO3 hnw3 hne hg3 hg4 hgr ho4 bw4 bw
        go_wp2_with fail
        refine (HD.out _).mono ?_; rintro e w2 ⟨rfl, rfl⟩
        clear HD hix hzz hxb
        go_wp2_with (first | refine wpList_run_append (by rfl) (.tmp 43) (.tmp 45) 105 (by rfl) (by rfl) (by rfl) happ ?_ | refine wpList_store (by rfl) (.tmp 48) (.tmp 46) (by rfl) (by rfl) (by rfl) hst ?_)
        go_roundg (n - (j + 1))
        case measure => omega
        case rel => exact ⟨j + 1, _, by omega, by go_num, HF.out.1, HF.out.2.1, HA2, HF.out.2.2⟩
    · have hk4 : ¬ (j : Int) < (n : Int) := by omega
      obtain rfl : n = j := by omega
      have htt : t.take n = t := List.take_of_length_le (by rw [HTL.out]; omega)
      rw [htt] at ho
      have hall := HA.out
      rw [htt] at hall
      have hyes : ofOk top t = true := HOK.out.trans hall
      have HQ : Hid (OfRet w top t (.returned (.tuple #[.pointer (some ⟨g, 0, none⟩), .int .i64 0])) wr) := by
        refine .inl ⟨hyes, g, r, rfl, ?_⟩
        have hoc := (of_ok hyes).1
        rw [HCH.out] at hoc ⊢
        exact ⟨kg, by rw [HTL.out]; exact ho, by rw [HG.out]; exact Nat.le_refl _, hoc⟩
      clear htt ho hall hyes kg
      go_wp2_with fail
      exact bodyPost_ret (v := .tuple #[.pointer (some ⟨g, 0, none⟩), .int .i64 0]) (by simp [results, Try.results19]) rfl ⟨HQ.out, bw⟩
end Go.Proofs.Ytbamfnlgapchkaa.Chn
