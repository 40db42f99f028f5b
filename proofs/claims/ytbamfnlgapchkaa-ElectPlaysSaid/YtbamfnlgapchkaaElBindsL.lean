/- The law ElectBinds, walked. Conditions: the lists can be read. -/
import Derived.Test.YtbamfnlgapchkaaElWk
import Derived.Test.YtbamfnlgapchkaaElBP
import Derived.Test.YtbamfnlgapchkaaEqS
import Derived.Test.YtbamfnlgapchkaaOpenU8
namespace Go.Proofs.Ytbamfnlgapchkaa.Ele
open Go Go.RowKit Bal Mem DrawInv

set_option linter.unusedSimpArgs false in
theorem of_e (i : Nat) (hi : i < 256) (w : World) : Calls Try.prog 47 #[.slice (some ⟨w.heap.size, 0, none⟩) 1 1] (w.alloc (.cells #[.int .u8 (i : Int)] 5)) fun e w' => e = .returned (.int .u8 ((ofN [i] : Nat) : Int)) ∧ Below w.heap.size w w' :=
  (of_any (some ⟨w.heap.size, 0, none⟩) 1 1 [i] rfl (by simpa using hi) _ (nums_of w _ rfl [_] _ [i] rfl) (by unfold maxLen; simp)).mono fun _ _ ⟨h, hw⟩ => ⟨h, by rw [← hw]; exact below_1 w _⟩
set_option linter.unusedSimpArgs false in
theorem eless_any (a b : B) (w : World) : Calls Try.prog 49 #[bV a, bV b] w fun e w' => e = .returned (.bool (ltB a b)) ∧ Below w.heap.size w w' := by
  have bw := below_2 w (.cells (bC a) 71) (.cells (bC b) 71)
  obtain ⟨n, r⟩ := a
  obtain ⟨m, q⟩ := b
  unfold bV bC at *
  unfold ltB
  dsimp only at *
  by_cases h1 : n < m
  · have g1 : (n : Int) < (m : Int) := by omega
    go_enter Try.func49, Try.ntmps49
    go_wp2
    go_ret
    exact ⟨by simp [h1], bw⟩
  have g1 : ¬ (n : Int) < (m : Int) := by omega
  by_cases h2 : n = m
  · subst h2
    by_cases h3 : r < q
    · have g3 : (r : Int) < (q : Int) := by omega
      go_enter Try.func49, Try.ntmps49
      go_wp2
      go_ret
      exact ⟨by simp [h3], bw⟩
    · have g3 : ¬ (r : Int) < (q : Int) := by omega
      go_enter Try.func49, Try.ntmps49
      go_wp2
      go_ret
      exact ⟨by simp [h3], bw⟩
  · have g2 : ((n : Int) == (m : Int)) = false := beq_eq_false_iff_ne.2 (by omega)
    go_enter Try.func49, Try.ntmps49
    go_wp2
    go_ret
    exact ⟨by simp [h1, h2], bw⟩
theorem run_eq_ballot (n : Nat) (w : World) (a b c d : Int) : (Op.equalIn (n + 2) 71 (.agg #[.int .u64 a, .int .u8 b]) (.agg #[.int .u64 c, .int .u8 d])).run Try.prog w = .ok ((a == c) && ((b == d) && true)) w := by
  have e1 := run_equalIn_int (P := Try.prog) w n 26 .u64 .u64 a c Try.underlying26
  have e2 := run_equalIn_int (P := Try.prog) w n 5 .u8 .u8 b d Try.underlying5
  obtain ⟨h1, h2⟩ := fields_of Try.underlying71
  rw [run_equalIn_agg w (n + 1) _ _ _ h1 (by kernel_rfl), h2]
  exact eqFields_step (by decide) (by kernel_rfl) (by kernel_rfl) e1 (eqFields_step (by decide) (by kernel_rfl) (by kernel_rfl) e2 (eqFields_nil _ _ _ _ _))
theorem eq_zero (b : B) : (((b.n : Int) == 0) && (((b.r : Int) == 0) && true)) = decide (b = ⟨0, 0⟩) := by
  obtain ⟨n, r⟩ := b
  by_cases h1 : n = 0
  · by_cases h2 : r = 0
    · subst h1; subst h2; rfl
    · have h2' : ((r : Int) == 0) = false := beq_eq_false_iff_ne.2 (by omega)
      simp [h2', h2]
  · have h1' : ((n : Int) == 0) = false := beq_eq_false_iff_ne.2 (by omega)
    simp [h1', h1]
theorem run_zero_ballot (n r : Nat) (w : World) : (Op.equalIn 10000 71 (.agg #[.int .u64 (n : Int), .int .u8 (r : Int)]) (.agg #[.int .u64 0, .int .u8 0])).run Try.prog w = .ok (decide ((⟨n, r⟩ : B) = ⟨0, 0⟩)) w := by
  rw [← eq_zero ⟨n, r⟩]
  exact run_eq_ballot 9998 w n r 0 0
theorem info_vote : ∃ i, Try.prog.info? 73 = some i ∧ i.size = 4 ∧ i.zero = some (.agg #[.int .u64 0, .int .u64 0, .int .u8 0, .string ⟨#[]⟩]) ∧ i.bytes = 40 := by
  cases h : Try.prog.info? 73 with
  | none =>
    have : (Try.prog.info? 73).isSome = true := by kernel_rfl
    rw [h] at this
    cases this
  | some i =>
    have e1 : (Try.prog.info? 73).map (·.size) = some 4 := by kernel_rfl
    have e2 : (Try.prog.info? 73).map (·.zero) = some (some (.agg #[.int .u64 0, .int .u64 0, .int .u8 0, .string ⟨#[]⟩])) := by kernel_rfl
    have e3 : (Try.prog.info? 73).map (·.bytes) = some 40 := by kernel_rfl
    rw [h] at e1 e2 e3
    exact ⟨i, rfl, Option.some.inj e1, Option.some.inj e2, Option.some.inj e3⟩
/-- append of votes. -/
theorem app_votes {w : World} {B : Nat} (hb : B ≤ w.heap.size) {v : Value} {l m : List Vt} (ho : w.ownsRow B 73 4 v l.length (l.flatMap vtL)) {A : Option Addr} {c : Nat} (hr : Rows w A 4 vtL m) (hn : l.length + m.length ≤ 1000000) :
    ∃ v' w', (Builtin.append_ #[69, 69] 69 #[v, .slice A m.length c]).run Try.prog w = .ok v' w' ∧ w'.ownsRow B 73 4 v' (l ++ m).length ((l ++ m).flatMap vtL) ∧ Below B w w' := by
  obtain ⟨i, hi, hs, hz, hby⟩ := info_vote
  obtain ⟨v', w', h1, h2, h3, h4⟩ := run_append_any (P := Try.prog) w B 69 69 73 i _ 4 40 Try.underlying69 hi hz hs hby rfl (by omega) v l.length _ ho w.heap.size A m.length c _ (rows_reads vtL_len (by omega) hr) (flat_one vtL_one m) (by unfold maxLen; omega) (by omega) hb
  exact ⟨v', w', h1, by rw [List.length_append, List.flatMap_append]; exact h2, (Below.refl B w).grown h3 hb (fun k hk => (ho.lt k hk).1)⟩
theorem store_slot {w : World} {g : Nat} {a b c d : Value} (hg : Blk w g 73 #[a, b, c, d]) (x : Int) : ∃ w', (Instr.storeAt 26 (.pointer (some ⟨g, 0, none⟩)) (.int .u64 x)).run Try.prog w = .ok () w' ∧ Blk w' g 73 #[.int .u64 x, b, c, d] ∧ w.grownBy w' (some g) := by
  have c0 := hg.cell 0
  have f0 := hg.frozen 0
  refine ⟨_, by go_simp, hg.set_ 0 _, only_setCell (World.grownBy.refl _ _) (.inl rfl) _⟩
theorem row4_all {w : World} {A : Option Addr} {V : List Vt} (h : Rows w A 4 vtL V) {k : Nat} {x : Vt} (hx : V[k]? = some x) : ∃ ad, A = some ad ∧ ∀ W, Below w.heap.size w W → W.cell? (ad.add (k * 4)) = some (.int .u64 (x.slot : Int)) ∧ W.cell? { block := (ad.add (k * 4)).block, off := (ad.add (k * 4)).off + 1 } = some (.int .u64 (x.n : Int)) ∧ W.cell? { block := (ad.add (k * 4)).block, off := (ad.add (k * 4)).off + 2 } = some (.int .u8 (x.r : Int)) ∧ W.cell? { block := (ad.add (k * 4)).block, off := (ad.add (k * 4)).off + 3 } = some (.string ⟨x.val.toArray⟩) := by
  obtain ⟨ad, e, hb, a0, a1⟩ := h.at_ hx
  refine ⟨ad, e, fun W hW => ⟨(hW.cell (by rw [block_of_add]; exact hb)).trans (a0 _ rfl), ?_, ?_, ?_⟩⟩
  · exact (hW.cell (by show (ad.add (k * 4)).block < _; rw [block_of_add]; exact hb)).trans (a1 0 _ rfl)
  · exact (hW.cell (by show (ad.add (k * 4)).block < _; rw [block_of_add]; exact hb)).trans (a1 1 _ rfl)
  · exact (hW.cell (by show (ad.add (k * 4)).block < _; rw [block_of_add]; exact hb)).trans (a1 2 _ rfl)
set_option linter.unusedVariables false in
set_option linter.unusedSimpArgs false in
set_option maxRecDepth 100000 in
set_option maxHeartbeats 2000000 in
theorem ebinds_any (c : Nat) (hc : c < 256) (V : List Vt) (m : Nat) (hm : V.length = m) (hm63 : m ≤ 9223372036854775807) (A : Option Addr) (cp : Nat) (fr : B) (l : List Nat) (hl : ∀ x ∈ l, x < 256) (n : Nat) (hn : l.length = n) (hn63 : n ≤ 9223372036854775807) (A2 : Option Addr) (cp2 : Nat) (slot : Nat) (w : World) (hr : Rows w A 4 vtL V) (hf : ∀ x ∈ V, x.Fits) (hr2 : Reads w w.heap.size 1 A2 n (l.map u8v)) :
    Calls Try.prog 11 #[.int .u8 (c : Int), .slice A m cp, bV fr, .slice A2 n cp2, .int .u64 (slot : Int)] w fun e w' => e = .returned (.bool true) ∧ Below w.heap.size w w' := by
  have b0 := below_1 w (.cells (bC fr) 71)
  have k0 := Blk.new w 71 (bC fr)
  unfold bV bC at *
  obtain ⟨fn, hfn⟩ : ∃ x, x = fr.n := ⟨_, rfl⟩
  obtain ⟨frr, hfrr⟩ : ∃ x, x = fr.r := ⟨_, rfl⟩
  have HFR : Hid (fr = ⟨fn, frr⟩) := by show _ = _; rw [hfn, hfrr]
  rw [← hfn, ← hfrr] at b0 k0 ⊢
  clear hfn hfrr
  obtain ⟨wA, hwA⟩ : ∃ wA, w.alloc (.cells #[.int .u64 (fn : Int), .int .u8 (frr : Int)] 71) = wA := ⟨_, rfl⟩
  obtain ⟨bf, hbf⟩ : ∃ g, w.heap.size = g := ⟨_, rfl⟩
  rw [hwA] at b0 k0
  rw [hbf] at k0
  have HW := Lib.hid (And.intro hwA hbf)
  have HV := Lib.hid (And.intro hr (And.intro hf hm))
  have HL := Lib.hid (And.intro hr2 (And.intro hl hn))
  have HC : Hid (c < 256 ∧ m ≤ 9223372036854775807) := ⟨hc, hm63⟩
  clear hwA hbf hr hf hm hr2 hl hn hc hm63
  go_enter Try.func11, Try.ntmps11
  go_upto_region 1 with fail
  rw [HW.out.1, HW.out.2]
  clear HW
  go_wp2_with fail
  go_loopg [12, 13, 14, 15] m (fun gk v12 v13 v14 v15 wr => ∃ (i s : Nat) (one : Bool) (vl : List UInt8), i + gk = m ∧ v15 = .int .i64 (i : Int) ∧ v13 = .int .u8 (s : Int) ∧ v14 = .bool one ∧ v12 = .string ⟨vl.toArray⟩ ∧ Hid (Bi V fr i s one vl ∧ i ≤ 7) ∧ Blk wr bf 71 #[.int .u64 (fn : Int), .int .u8 (frr : Int)] ∧ Below w.heap.size w wr)
  case atStart => exact ⟨0, 0, true, [], by omega, rfl, rfl, rfl, rfl, ⟨bi_zero V fr, by omega⟩, k0, b0⟩
  case round =>
    clear k0 b0
    obtain ⟨i, s, one, vl, hi, rfl, rfl, rfl, rfl, HBI, kb, bw⟩ := hrel
    by_cases hgo : i < m ∧ i < 7
    · obtain ⟨h4, h7⟩ := hgo
      have hk4 : (i : Int) < (m : Int) := by omega
      have hk7 : (i : Int) < 7 := by omega
      obtain ⟨x, hx⟩ : ∃ x, V[i]? = some x := ⟨_, List.getElem?_eq_getElem (by rw [HV.out.2.2]; exact h4)⟩
      obtain ⟨ad, hAe, hcs⟩ := row4_all HV.out.1 hx
      subst hAe
      have hc := hcs wr bw
      obtain ⟨x0, xn, xr, xv⟩ := x
      dsimp only at hc
      have e0 : wr.drew.cell? (ad.add (i * 4)) = some (.int .u64 (x0 : Int)) := hc.1
      have e1 : wr.drew.cell? { block := (ad.add (i * 4)).block, off := (ad.add (i * 4)).off + 1 } = some (.int .u64 (xn : Int)) := hc.2.1
      have e2 : wr.drew.cell? { block := (ad.add (i * 4)).block, off := (ad.add (i * 4)).off + 2 } = some (.int .u8 (xr : Int)) := hc.2.2.1
      have e3 : wr.drew.cell? { block := (ad.add (i * 4)).block, off := (ad.add (i * 4)).off + 3 } = some (.string ⟨xv.toArray⟩) := hc.2.2.2
      have kbd : Blk wr.drew bf 71 #[.int .u64 (fn : Int), .int .u8 (frr : Int)] := kb
      have HCS := Lib.hid hcs
      have HX := Lib.hid hx
      have HI := Lib.hid hi
      have heq := fun W => run_zero_ballot xn xr W
      obtain ⟨bz, hbz⟩ : ∃ b, b = decide ((⟨xn, xr⟩ : B) = ⟨0, 0⟩) := ⟨_, rfl⟩
      simp only [← hbz] at heq
      have HLS := Lib.hid (fun W => eless_any ⟨xn, xr⟩ ⟨fn, frr⟩ W)
      unfold bV bC at HLS
      dsimp only at HLS
      obtain ⟨ls, hls⟩ : ∃ b, b = ltB ⟨xn, xr⟩ ⟨fn, frr⟩ := ⟨_, rfl⟩
      simp only [← hls] at HLS
      have hcd : cand fr (⟨x0, xn, xr, xv⟩ : Vt) = (!bz && !ls) := by rw [HFR.out, hbz, hls]; rfl
      clear hc hcs hx hi h4 h7 hbz hls
      cases bz
      rotate_left
      · have HSK := Lib.hid (bi_skip HBI.out.1 HX.out (by rw [hcd]; rfl))
        clear hcd
        go_wp2_with fail
        refine region_inv2 (by kernel_rfl) [] [(35, .slice (some ad) m cp), (36, .int .i64 (i : Int)), (37, .pointer (some (ad.add (i * 4)))), (38, .pointer (some { block := (ad.add (i * 4)).block, off := (ad.add (i * 4)).off + 1 })), (39, .agg #[.int .u64 (xn : Int), .int .u8 (xr : Int)]), (40, .agg #[.int .u64 0, .int .u8 0]), (41, .bool true), (42, .bool true), (43, undef), (44, undef), (45, undef), (46, undef), (47, undef), (48, undef), (49, undef), (50, .bool true)] (by kernel_rfl) (by kernel_rfl) rfl (by kernel_rfl) ?_ ?_ ?_
        · intro q hq; cases hq
        · refine And.intro ?_ ?_
          · intro d hd ρ W hcs bw hn hg
            cases hd
            have e1 : ρ (.tmp 1) = .slice (some ad) m cp := hn 1 (by decide)
            clear hn hg
            refine .inl ⟨trivial, ?_⟩
            refine .inl ⟨_, W, rfl, e1, Below.refl _ _⟩
          refine And.intro ?_ ?_
          · intro d hd ρ W hcs bw hn hg
            cases hd
            have e15 : ρ (.tmp 15) = .int .i64 (i : Int) := hn 15 (by decide)
            clear hn hg
            refine .inl ⟨trivial, ?_⟩
            refine .inl ⟨_, W, rfl, e15, Below.refl _ _⟩
          refine And.intro ?_ ?_
          · intro d hd ρ W hcs bw hn hg
            cases hd
            have e35 : ρ (.tmp 35) = .slice (some ad) m cp := hn 35 (by decide)
            have e36 : ρ (.tmp 36) = .int .i64 (i : Int) := hn 36 (by decide)
            clear hn hg
            refine .inl ⟨trivial, ?_⟩
            refine .inl ⟨.pointer (some (ad.add (i * 4))), W, ?_, rfl, Below.refl _ _⟩
            go_simp
          refine And.intro ?_ ?_
          · intro d hd ρ W hcs bw hn hg
            cases hd
            have e37 : ρ (.tmp 37) = .pointer (some (ad.add (i * 4))) := hn 37 (by decide)
            clear hn hg
            refine .inl ⟨trivial, ?_⟩
            refine .inl ⟨.pointer (some { block := (ad.add (i * 4)).block, off := (ad.add (i * 4)).off + 1 }), W, ?_, rfl, Below.refl _ _⟩
            go_simp
          refine And.intro ?_ ?_
          · intro d hd ρ W hcs bw hn hg
            cases hd
            have e38 : ρ (.tmp 38) = .pointer (some { block := (ad.add (i * 4)).block, off := (ad.add (i * 4)).off + 1 }) := hn 38 (by decide)
            clear hn hg
            refine .inl ⟨trivial, ?_⟩
            have z0 : W.cell? { block := (ad.add (i * 4)).block, off := (ad.add (i * 4)).off + 1 } = some (.int .u64 (xn : Int)) := (bw.cell (cell_lt e1)).trans e1
            have z1 : W.cell? { block := (ad.add (i * 4)).block, off := (ad.add (i * 4)).off + 2 } = some (.int .u8 (xr : Int)) := (bw.cell (cell_lt e2)).trans e2
            refine .inl ⟨.agg #[.int .u64 (xn : Int), .int .u8 (xr : Int)], W, ?_, rfl, Below.refl _ _⟩
            go_simp
          refine And.intro ?_ ?_
          · intro d hd ρ W hcs bw hn hg
            cases hd
            clear hn hg
            refine .inl ⟨trivial, ?_⟩
            refine .inl ⟨.agg #[.int .u64 0, .int .u8 0], W, ?_, rfl, Below.refl _ _⟩
            go_simp
          refine And.intro ?_ ?_
          · intro d hd ρ W hcs bw hn hg
            cases hd
            have e39 : ρ (.tmp 39) = .agg #[.int .u64 (xn : Int), .int .u8 (xr : Int)] := hn 39 (by decide)
            have e40 : ρ (.tmp 40) = .agg #[.int .u64 0, .int .u8 0] := hn 40 (by decide)
            clear hn hg
            refine .inl ⟨trivial, ?_⟩
            refine .inl ⟨.bool true, W, ?_, rfl, Below.refl _ _⟩
            go_simp
          refine And.intro ?_ ?_
          · intro d hd ρ W hcs bw hn hg
            cases hd
            have e41 : ρ (.tmp 41) = .bool true := hn 41 (by decide)
            clear hn hg
            refine .inl ⟨trivial, ?_⟩
            refine .inl ⟨_, W, rfl, e41, Below.refl _ _⟩
          refine And.intro ?_ ?_
          · intro d hd ρ W hcs bw hn hg
            cases hd
            have eg : ρ (.tmp 42) = .bool true := hg _ _ _ _ rfl rfl rfl
            exact .inr ⟨⟨_, _, _, rfl, rfl, eg, nofun⟩, rfl⟩
          refine And.intro ?_ ?_
          · intro d hd ρ W hcs bw hn hg
            cases hd
            have eg : ρ (.tmp 42) = .bool true := hg _ _ _ _ rfl rfl rfl
            exact .inr ⟨⟨_, _, _, rfl, rfl, eg, nofun⟩, rfl⟩
          refine And.intro ?_ ?_
          · intro d hd ρ W hcs bw hn hg
            cases hd
            have eg : ρ (.tmp 42) = .bool true := hg _ _ _ _ rfl rfl rfl
            exact .inr ⟨⟨_, _, _, rfl, rfl, eg, nofun⟩, rfl⟩
          refine And.intro ?_ ?_
          · intro d hd ρ W hcs bw hn hg
            cases hd
            have eg : ρ (.tmp 42) = .bool true := hg _ _ _ _ rfl rfl rfl
            exact .inr ⟨⟨_, _, _, rfl, rfl, eg, nofun⟩, rfl⟩
          refine And.intro ?_ ?_
          · intro d hd ρ W hcs bw hn hg
            cases hd
            have eg : ρ (.tmp 42) = .bool true := hg _ _ _ _ rfl rfl rfl
            exact .inr ⟨⟨_, _, _, rfl, rfl, eg, nofun⟩, rfl⟩
          refine And.intro ?_ ?_
          · intro d hd ρ W hcs bw hn hg
            cases hd
            have eg : ρ (.tmp 42) = .bool true := hg _ _ _ _ rfl rfl rfl
            exact .inr ⟨⟨_, _, _, rfl, rfl, eg, nofun⟩, rfl⟩
          refine And.intro ?_ ?_
          · intro d hd ρ W hcs bw hn hg
            cases hd
            have eg : ρ (.tmp 42) = .bool true := hg _ _ _ _ rfl rfl rfl
            exact .inr ⟨⟨_, _, _, rfl, rfl, eg, nofun⟩, rfl⟩
          refine And.intro ?_ ?_
          · intro d hd ρ W hcs bw hn hg
            cases hd
            have e42 : ρ (.tmp 42) = .bool true := hn 42 (by decide)
            have e49 : ρ (.tmp 49) = undef := hn 49 (by decide)
            clear hn hg
            refine .inl ⟨trivial, ?_⟩
            have hc1 := hcs.1
            refine .inl ⟨.bool true, W, ?_, rfl, Below.refl _ _⟩
            go_simp
          trivial
        · intro a' w' hsz hdf hb hVs
          have q50 : a'.eval (.tmp 50) = .bool true := hVs 50
          have ha := slot_over_seg 35 16 [] rfl (by kernel_rfl) (of_decide_eq_true (by kernel_rfl)) hsz hdf hVs
          clear hVs hsz hdf
          rw [show List.range' 35 16 = [35, 36, 37, 38, 39, 40, 41, 42, 43, 44, 45, 46, 47, 48, 49, 50] from rfl] at ha
          simp only [List.take_succ_cons, List.take_zero, List.drop_succ_cons, List.drop_zero, List.map_cons, List.map_nil, List.cons_append, List.nil_append, List.foldl_cons, List.foldl_nil, List.set_cons_zero, List.set_cons_succ, q50] at ha
          clear q50
          generalize a'.eval (.tmp 35) = x35 at ha
          generalize a'.eval (.tmp 36) = x36 at ha
          generalize a'.eval (.tmp 37) = x37 at ha
          generalize a'.eval (.tmp 38) = x38 at ha
          generalize a'.eval (.tmp 39) = x39 at ha
          generalize a'.eval (.tmp 40) = x40 at ha
          generalize a'.eval (.tmp 41) = x41 at ha
          generalize a'.eval (.tmp 42) = x42 at ha
          generalize a'.eval (.tmp 43) = x43 at ha
          generalize a'.eval (.tmp 44) = x44 at ha
          generalize a'.eval (.tmp 45) = x45 at ha
          generalize a'.eval (.tmp 46) = x46 at ha
          generalize a'.eval (.tmp 47) = x47 at ha
          generalize a'.eval (.tmp 48) = x48 at ha
          generalize a'.eval (.tmp 49) = x49 at ha
          subst ha
          have bz : Below w.heap.size w w' := bw.drew.trans (hb.mono bw.drew.size)
          have kz : Blk w' bf 71 #[.int .u64 (fn : Int), .int .u8 (frr : Int)] := kbd.below hb kbd.lt
          clear hb bw kb kbd e0 e1 e2 e3 heq HLS
          go_wp2_with fail
          go_roundg (m - (i + 1))
          case measure => have := HI.out; omega
          case rel => exact ⟨i + 1, s, one, vl, by have := HI.out; omega, by go_num, rfl, rfl, rfl, ⟨HSK.out, by omega⟩, kz, bz⟩
      cases ls
      rotate_left
      · have HSK := Lib.hid (bi_skip HBI.out.1 HX.out (by rw [hcd]; rfl))
        clear hcd
        go_wp2_with fail
        refine region_inv2 (by kernel_rfl) [] [(35, .slice (some ad) m cp), (36, .int .i64 (i : Int)), (37, .pointer (some (ad.add (i * 4)))), (38, .pointer (some { block := (ad.add (i * 4)).block, off := (ad.add (i * 4)).off + 1 })), (39, .agg #[.int .u64 (xn : Int), .int .u8 (xr : Int)]), (40, .agg #[.int .u64 0, .int .u8 0]), (41, .bool false), (42, .bool false), (43, .slice (some ad) m cp), (44, .int .i64 (i : Int)), (45, .pointer (some (ad.add (i * 4)))), (46, .pointer (some { block := (ad.add (i * 4)).block, off := (ad.add (i * 4)).off + 1 })), (47, .agg #[.int .u64 (xn : Int), .int .u8 (xr : Int)]), (48, .agg #[.int .u64 (fn : Int), .int .u8 (frr : Int)]), (49, .bool true), (50, .bool true)] (by kernel_rfl) (by kernel_rfl) rfl (by kernel_rfl) ?_ ?_ ?_
        · intro q hq; cases hq
        · refine And.intro ?_ ?_
          · intro d hd ρ W hcs bw hn hg
            cases hd
            have e1 : ρ (.tmp 1) = .slice (some ad) m cp := hn 1 (by decide)
            clear hn hg
            refine .inl ⟨trivial, ?_⟩
            refine .inl ⟨_, W, rfl, e1, Below.refl _ _⟩
          refine And.intro ?_ ?_
          · intro d hd ρ W hcs bw hn hg
            cases hd
            have e15 : ρ (.tmp 15) = .int .i64 (i : Int) := hn 15 (by decide)
            clear hn hg
            refine .inl ⟨trivial, ?_⟩
            refine .inl ⟨_, W, rfl, e15, Below.refl _ _⟩
          refine And.intro ?_ ?_
          · intro d hd ρ W hcs bw hn hg
            cases hd
            have e35 : ρ (.tmp 35) = .slice (some ad) m cp := hn 35 (by decide)
            have e36 : ρ (.tmp 36) = .int .i64 (i : Int) := hn 36 (by decide)
            clear hn hg
            refine .inl ⟨trivial, ?_⟩
            refine .inl ⟨.pointer (some (ad.add (i * 4))), W, ?_, rfl, Below.refl _ _⟩
            go_simp
          refine And.intro ?_ ?_
          · intro d hd ρ W hcs bw hn hg
            cases hd
            have e37 : ρ (.tmp 37) = .pointer (some (ad.add (i * 4))) := hn 37 (by decide)
            clear hn hg
            refine .inl ⟨trivial, ?_⟩
            refine .inl ⟨.pointer (some { block := (ad.add (i * 4)).block, off := (ad.add (i * 4)).off + 1 }), W, ?_, rfl, Below.refl _ _⟩
            go_simp
          refine And.intro ?_ ?_
          · intro d hd ρ W hcs bw hn hg
            cases hd
            have e38 : ρ (.tmp 38) = .pointer (some { block := (ad.add (i * 4)).block, off := (ad.add (i * 4)).off + 1 }) := hn 38 (by decide)
            clear hn hg
            refine .inl ⟨trivial, ?_⟩
            have z0 : W.cell? { block := (ad.add (i * 4)).block, off := (ad.add (i * 4)).off + 1 } = some (.int .u64 (xn : Int)) := (bw.cell (cell_lt e1)).trans e1
            have z1 : W.cell? { block := (ad.add (i * 4)).block, off := (ad.add (i * 4)).off + 2 } = some (.int .u8 (xr : Int)) := (bw.cell (cell_lt e2)).trans e2
            refine .inl ⟨.agg #[.int .u64 (xn : Int), .int .u8 (xr : Int)], W, ?_, rfl, Below.refl _ _⟩
            go_simp
          refine And.intro ?_ ?_
          · intro d hd ρ W hcs bw hn hg
            cases hd
            clear hn hg
            refine .inl ⟨trivial, ?_⟩
            refine .inl ⟨.agg #[.int .u64 0, .int .u8 0], W, ?_, rfl, Below.refl _ _⟩
            go_simp
          refine And.intro ?_ ?_
          · intro d hd ρ W hcs bw hn hg
            cases hd
            have e39 : ρ (.tmp 39) = .agg #[.int .u64 (xn : Int), .int .u8 (xr : Int)] := hn 39 (by decide)
            have e40 : ρ (.tmp 40) = .agg #[.int .u64 0, .int .u8 0] := hn 40 (by decide)
            clear hn hg
            refine .inl ⟨trivial, ?_⟩
            refine .inl ⟨.bool false, W, ?_, rfl, Below.refl _ _⟩
            go_simp
          refine And.intro ?_ ?_
          · intro d hd ρ W hcs bw hn hg
            cases hd
            have e41 : ρ (.tmp 41) = .bool false := hn 41 (by decide)
            clear hn hg
            refine .inl ⟨trivial, ?_⟩
            refine .inl ⟨_, W, rfl, e41, Below.refl _ _⟩
          refine And.intro ?_ ?_
          · intro d hd ρ W hcs bw hn hg
            cases hd
            have eg : ρ (.tmp 42) = .bool false := hg _ _ _ _ rfl rfl rfl
            have e1 : ρ (.tmp 1) = .slice (some ad) m cp := hn 1 (by decide)
            clear hn hg
            refine .inl ⟨⟨_, _, rfl, rfl, eg⟩, ?_⟩
            refine .inl ⟨_, W, rfl, e1, Below.refl _ _⟩
          refine And.intro ?_ ?_
          · intro d hd ρ W hcs bw hn hg
            cases hd
            have eg : ρ (.tmp 42) = .bool false := hg _ _ _ _ rfl rfl rfl
            have e15 : ρ (.tmp 15) = .int .i64 (i : Int) := hn 15 (by decide)
            clear hn hg
            refine .inl ⟨⟨_, _, rfl, rfl, eg⟩, ?_⟩
            refine .inl ⟨_, W, rfl, e15, Below.refl _ _⟩
          refine And.intro ?_ ?_
          · intro d hd ρ W hcs bw hn hg
            cases hd
            have eg : ρ (.tmp 42) = .bool false := hg _ _ _ _ rfl rfl rfl
            have e43 : ρ (.tmp 43) = .slice (some ad) m cp := hn 43 (by decide)
            have e44 : ρ (.tmp 44) = .int .i64 (i : Int) := hn 44 (by decide)
            clear hn hg
            refine .inl ⟨⟨_, _, rfl, rfl, eg⟩, ?_⟩
            refine .inl ⟨.pointer (some (ad.add (i * 4))), W, ?_, rfl, Below.refl _ _⟩
            go_simp
          refine And.intro ?_ ?_
          · intro d hd ρ W hcs bw hn hg
            cases hd
            have eg : ρ (.tmp 42) = .bool false := hg _ _ _ _ rfl rfl rfl
            have e45 : ρ (.tmp 45) = .pointer (some (ad.add (i * 4))) := hn 45 (by decide)
            clear hn hg
            refine .inl ⟨⟨_, _, rfl, rfl, eg⟩, ?_⟩
            refine .inl ⟨.pointer (some { block := (ad.add (i * 4)).block, off := (ad.add (i * 4)).off + 1 }), W, ?_, rfl, Below.refl _ _⟩
            go_simp
          refine And.intro ?_ ?_
          · intro d hd ρ W hcs bw hn hg
            cases hd
            have eg : ρ (.tmp 42) = .bool false := hg _ _ _ _ rfl rfl rfl
            have e46 : ρ (.tmp 46) = .pointer (some { block := (ad.add (i * 4)).block, off := (ad.add (i * 4)).off + 1 }) := hn 46 (by decide)
            clear hn hg
            refine .inl ⟨⟨_, _, rfl, rfl, eg⟩, ?_⟩
            have z0 : W.cell? { block := (ad.add (i * 4)).block, off := (ad.add (i * 4)).off + 1 } = some (.int .u64 (xn : Int)) := (bw.cell (cell_lt e1)).trans e1
            have z1 : W.cell? { block := (ad.add (i * 4)).block, off := (ad.add (i * 4)).off + 2 } = some (.int .u8 (xr : Int)) := (bw.cell (cell_lt e2)).trans e2
            refine .inl ⟨.agg #[.int .u64 (xn : Int), .int .u8 (xr : Int)], W, ?_, rfl, Below.refl _ _⟩
            go_simp
          refine And.intro ?_ ?_
          · intro d hd ρ W hcs bw hn hg
            cases hd
            have eg : ρ (.tmp 42) = .bool false := hg _ _ _ _ rfl rfl rfl
            have e7 : ρ (.tmp 7) = .pointer (some ⟨bf, 0, none⟩) := hn 7 (by decide)
            clear hn hg
            refine .inl ⟨⟨_, _, rfl, rfl, eg⟩, ?_⟩
            have z0 : W.cell? ⟨bf, 0, none⟩ = some (.int .u64 (fn : Int)) := (Blk.below kbd bw (Blk.lt kbd)).cell 0
            have z1 : W.cell? ⟨bf, 1, none⟩ = some (.int .u8 (frr : Int)) := (Blk.below kbd bw (Blk.lt kbd)).cell 1
            refine .inl ⟨.agg #[.int .u64 (fn : Int), .int .u8 (frr : Int)], W, ?_, rfl, Below.refl _ _⟩
            go_simp
          refine And.intro ?_ ?_
          · intro d hd ρ W hcs bw hn hg
            cases hd
            have eg : ρ (.tmp 42) = .bool false := hg _ _ _ _ rfl rfl rfl
            have e47 : ρ (.tmp 47) = .agg #[.int .u64 (xn : Int), .int .u8 (xr : Int)] := hn 47 (by decide)
            have e48 : ρ (.tmp 48) = .agg #[.int .u64 (fn : Int), .int .u8 (frr : Int)] := hn 48 (by decide)
            clear hn hg
            refine .inl ⟨⟨_, _, rfl, rfl, eg⟩, ?_⟩
            have ef : ρ (.func 49) = .func (.func 49) #[] #[] := hcs.2 _
            refine .inr ⟨49, #[.agg #[.int .u64 (xn : Int), .int .u8 (xr : Int)], .agg #[.int .u64 (fn : Int), .int .u8 (frr : Int)]], ?_, (HLS.out W).mono ?_⟩
            · go_simp
            · rintro e w2 ⟨rfl, B2⟩; exact ⟨_, rfl, rfl, B2⟩
          refine And.intro ?_ ?_
          · intro d hd ρ W hcs bw hn hg
            cases hd
            have e42 : ρ (.tmp 42) = .bool false := hn 42 (by decide)
            have e49 : ρ (.tmp 49) = .bool true := hn 49 (by decide)
            clear hn hg
            refine .inl ⟨trivial, ?_⟩
            have hc1 := hcs.1
            refine .inl ⟨.bool true, W, ?_, rfl, Below.refl _ _⟩
            go_simp
          trivial
        · intro a' w' hsz hdf hb hVs
          have q50 : a'.eval (.tmp 50) = .bool true := hVs 50
          have ha := slot_over_seg 35 16 [] rfl (by kernel_rfl) (of_decide_eq_true (by kernel_rfl)) hsz hdf hVs
          clear hVs hsz hdf
          rw [show List.range' 35 16 = [35, 36, 37, 38, 39, 40, 41, 42, 43, 44, 45, 46, 47, 48, 49, 50] from rfl] at ha
          simp only [List.take_succ_cons, List.take_zero, List.drop_succ_cons, List.drop_zero, List.map_cons, List.map_nil, List.cons_append, List.nil_append, List.foldl_cons, List.foldl_nil, List.set_cons_zero, List.set_cons_succ, q50] at ha
          clear q50
          generalize a'.eval (.tmp 35) = x35 at ha
          generalize a'.eval (.tmp 36) = x36 at ha
          generalize a'.eval (.tmp 37) = x37 at ha
          generalize a'.eval (.tmp 38) = x38 at ha
          generalize a'.eval (.tmp 39) = x39 at ha
          generalize a'.eval (.tmp 40) = x40 at ha
          generalize a'.eval (.tmp 41) = x41 at ha
          generalize a'.eval (.tmp 42) = x42 at ha
          generalize a'.eval (.tmp 43) = x43 at ha
          generalize a'.eval (.tmp 44) = x44 at ha
          generalize a'.eval (.tmp 45) = x45 at ha
          generalize a'.eval (.tmp 46) = x46 at ha
          generalize a'.eval (.tmp 47) = x47 at ha
          generalize a'.eval (.tmp 48) = x48 at ha
          generalize a'.eval (.tmp 49) = x49 at ha
          subst ha
          have bz : Below w.heap.size w w' := bw.drew.trans (hb.mono bw.drew.size)
          have kz : Blk w' bf 71 #[.int .u64 (fn : Int), .int .u8 (frr : Int)] := kbd.below hb kbd.lt
          clear hb bw kb kbd e0 e1 e2 e3 heq HLS
          go_wp2_with fail
          go_roundg (m - (i + 1))
          case measure => have := HI.out; omega
          case rel => exact ⟨i + 1, s, one, vl, by have := HI.out; omega, by go_num, rfl, rfl, rfl, ⟨HSK.out, by omega⟩, kz, bz⟩
      have HTK := Lib.hid (bi_take HBI.out.1 (by omega) HX.out (by rw [hcd]; rfl))
      have HSL := Lib.hid HBI.out.1.lt
      clear hcd
      go_wp2_with fail
      refine region_inv2 (by kernel_rfl) [] [(35, .slice (some ad) m cp), (36, .int .i64 (i : Int)), (37, .pointer (some (ad.add (i * 4)))), (38, .pointer (some { block := (ad.add (i * 4)).block, off := (ad.add (i * 4)).off + 1 })), (39, .agg #[.int .u64 (xn : Int), .int .u8 (xr : Int)]), (40, .agg #[.int .u64 0, .int .u8 0]), (41, .bool false), (42, .bool false), (43, .slice (some ad) m cp), (44, .int .i64 (i : Int)), (45, .pointer (some (ad.add (i * 4)))), (46, .pointer (some { block := (ad.add (i * 4)).block, off := (ad.add (i * 4)).off + 1 })), (47, .agg #[.int .u64 (xn : Int), .int .u8 (xr : Int)]), (48, .agg #[.int .u64 (fn : Int), .int .u8 (frr : Int)]), (49, .bool false), (50, .bool false)] (by kernel_rfl) (by kernel_rfl) rfl (by kernel_rfl) ?_ ?_ ?_
      · intro q hq; cases hq
      · refine And.intro ?_ ?_
        · intro d hd ρ W hcs bw hn hg
          cases hd
          have e1 : ρ (.tmp 1) = .slice (some ad) m cp := hn 1 (by decide)
          clear hn hg
          refine .inl ⟨trivial, ?_⟩
          refine .inl ⟨_, W, rfl, e1, Below.refl _ _⟩
        refine And.intro ?_ ?_
        · intro d hd ρ W hcs bw hn hg
          cases hd
          have e15 : ρ (.tmp 15) = .int .i64 (i : Int) := hn 15 (by decide)
          clear hn hg
          refine .inl ⟨trivial, ?_⟩
          refine .inl ⟨_, W, rfl, e15, Below.refl _ _⟩
        refine And.intro ?_ ?_
        · intro d hd ρ W hcs bw hn hg
          cases hd
          have e35 : ρ (.tmp 35) = .slice (some ad) m cp := hn 35 (by decide)
          have e36 : ρ (.tmp 36) = .int .i64 (i : Int) := hn 36 (by decide)
          clear hn hg
          refine .inl ⟨trivial, ?_⟩
          refine .inl ⟨.pointer (some (ad.add (i * 4))), W, ?_, rfl, Below.refl _ _⟩
          go_simp
        refine And.intro ?_ ?_
        · intro d hd ρ W hcs bw hn hg
          cases hd
          have e37 : ρ (.tmp 37) = .pointer (some (ad.add (i * 4))) := hn 37 (by decide)
          clear hn hg
          refine .inl ⟨trivial, ?_⟩
          refine .inl ⟨.pointer (some { block := (ad.add (i * 4)).block, off := (ad.add (i * 4)).off + 1 }), W, ?_, rfl, Below.refl _ _⟩
          go_simp
        refine And.intro ?_ ?_
        · intro d hd ρ W hcs bw hn hg
          cases hd
          have e38 : ρ (.tmp 38) = .pointer (some { block := (ad.add (i * 4)).block, off := (ad.add (i * 4)).off + 1 }) := hn 38 (by decide)
          clear hn hg
          refine .inl ⟨trivial, ?_⟩
          have z0 : W.cell? { block := (ad.add (i * 4)).block, off := (ad.add (i * 4)).off + 1 } = some (.int .u64 (xn : Int)) := (bw.cell (cell_lt e1)).trans e1
          have z1 : W.cell? { block := (ad.add (i * 4)).block, off := (ad.add (i * 4)).off + 2 } = some (.int .u8 (xr : Int)) := (bw.cell (cell_lt e2)).trans e2
          refine .inl ⟨.agg #[.int .u64 (xn : Int), .int .u8 (xr : Int)], W, ?_, rfl, Below.refl _ _⟩
          go_simp
        refine And.intro ?_ ?_
        · intro d hd ρ W hcs bw hn hg
          cases hd
          clear hn hg
          refine .inl ⟨trivial, ?_⟩
          refine .inl ⟨.agg #[.int .u64 0, .int .u8 0], W, ?_, rfl, Below.refl _ _⟩
          go_simp
        refine And.intro ?_ ?_
        · intro d hd ρ W hcs bw hn hg
          cases hd
          have e39 : ρ (.tmp 39) = .agg #[.int .u64 (xn : Int), .int .u8 (xr : Int)] := hn 39 (by decide)
          have e40 : ρ (.tmp 40) = .agg #[.int .u64 0, .int .u8 0] := hn 40 (by decide)
          clear hn hg
          refine .inl ⟨trivial, ?_⟩
          refine .inl ⟨.bool false, W, ?_, rfl, Below.refl _ _⟩
          go_simp
        refine And.intro ?_ ?_
        · intro d hd ρ W hcs bw hn hg
          cases hd
          have e41 : ρ (.tmp 41) = .bool false := hn 41 (by decide)
          clear hn hg
          refine .inl ⟨trivial, ?_⟩
          refine .inl ⟨_, W, rfl, e41, Below.refl _ _⟩
        refine And.intro ?_ ?_
        · intro d hd ρ W hcs bw hn hg
          cases hd
          have eg : ρ (.tmp 42) = .bool false := hg _ _ _ _ rfl rfl rfl
          have e1 : ρ (.tmp 1) = .slice (some ad) m cp := hn 1 (by decide)
          clear hn hg
          refine .inl ⟨⟨_, _, rfl, rfl, eg⟩, ?_⟩
          refine .inl ⟨_, W, rfl, e1, Below.refl _ _⟩
        refine And.intro ?_ ?_
        · intro d hd ρ W hcs bw hn hg
          cases hd
          have eg : ρ (.tmp 42) = .bool false := hg _ _ _ _ rfl rfl rfl
          have e15 : ρ (.tmp 15) = .int .i64 (i : Int) := hn 15 (by decide)
          clear hn hg
          refine .inl ⟨⟨_, _, rfl, rfl, eg⟩, ?_⟩
          refine .inl ⟨_, W, rfl, e15, Below.refl _ _⟩
        refine And.intro ?_ ?_
        · intro d hd ρ W hcs bw hn hg
          cases hd
          have eg : ρ (.tmp 42) = .bool false := hg _ _ _ _ rfl rfl rfl
          have e43 : ρ (.tmp 43) = .slice (some ad) m cp := hn 43 (by decide)
          have e44 : ρ (.tmp 44) = .int .i64 (i : Int) := hn 44 (by decide)
          clear hn hg
          refine .inl ⟨⟨_, _, rfl, rfl, eg⟩, ?_⟩
          refine .inl ⟨.pointer (some (ad.add (i * 4))), W, ?_, rfl, Below.refl _ _⟩
          go_simp
        refine And.intro ?_ ?_
        · intro d hd ρ W hcs bw hn hg
          cases hd
          have eg : ρ (.tmp 42) = .bool false := hg _ _ _ _ rfl rfl rfl
          have e45 : ρ (.tmp 45) = .pointer (some (ad.add (i * 4))) := hn 45 (by decide)
          clear hn hg
          refine .inl ⟨⟨_, _, rfl, rfl, eg⟩, ?_⟩
          refine .inl ⟨.pointer (some { block := (ad.add (i * 4)).block, off := (ad.add (i * 4)).off + 1 }), W, ?_, rfl, Below.refl _ _⟩
          go_simp
        refine And.intro ?_ ?_
        · intro d hd ρ W hcs bw hn hg
          cases hd
          have eg : ρ (.tmp 42) = .bool false := hg _ _ _ _ rfl rfl rfl
          have e46 : ρ (.tmp 46) = .pointer (some { block := (ad.add (i * 4)).block, off := (ad.add (i * 4)).off + 1 }) := hn 46 (by decide)
          clear hn hg
          refine .inl ⟨⟨_, _, rfl, rfl, eg⟩, ?_⟩
          have z0 : W.cell? { block := (ad.add (i * 4)).block, off := (ad.add (i * 4)).off + 1 } = some (.int .u64 (xn : Int)) := (bw.cell (cell_lt e1)).trans e1
          have z1 : W.cell? { block := (ad.add (i * 4)).block, off := (ad.add (i * 4)).off + 2 } = some (.int .u8 (xr : Int)) := (bw.cell (cell_lt e2)).trans e2
          refine .inl ⟨.agg #[.int .u64 (xn : Int), .int .u8 (xr : Int)], W, ?_, rfl, Below.refl _ _⟩
          go_simp
        refine And.intro ?_ ?_
        · intro d hd ρ W hcs bw hn hg
          cases hd
          have eg : ρ (.tmp 42) = .bool false := hg _ _ _ _ rfl rfl rfl
          have e7 : ρ (.tmp 7) = .pointer (some ⟨bf, 0, none⟩) := hn 7 (by decide)
          clear hn hg
          refine .inl ⟨⟨_, _, rfl, rfl, eg⟩, ?_⟩
          have z0 : W.cell? ⟨bf, 0, none⟩ = some (.int .u64 (fn : Int)) := (Blk.below kbd bw (Blk.lt kbd)).cell 0
          have z1 : W.cell? ⟨bf, 1, none⟩ = some (.int .u8 (frr : Int)) := (Blk.below kbd bw (Blk.lt kbd)).cell 1
          refine .inl ⟨.agg #[.int .u64 (fn : Int), .int .u8 (frr : Int)], W, ?_, rfl, Below.refl _ _⟩
          go_simp
        refine And.intro ?_ ?_
        · intro d hd ρ W hcs bw hn hg
          cases hd
          have eg : ρ (.tmp 42) = .bool false := hg _ _ _ _ rfl rfl rfl
          have e47 : ρ (.tmp 47) = .agg #[.int .u64 (xn : Int), .int .u8 (xr : Int)] := hn 47 (by decide)
          have e48 : ρ (.tmp 48) = .agg #[.int .u64 (fn : Int), .int .u8 (frr : Int)] := hn 48 (by decide)
          clear hn hg
          refine .inl ⟨⟨_, _, rfl, rfl, eg⟩, ?_⟩
          have ef : ρ (.func 49) = .func (.func 49) #[] #[] := hcs.2 _
          refine .inr ⟨49, #[.agg #[.int .u64 (xn : Int), .int .u8 (xr : Int)], .agg #[.int .u64 (fn : Int), .int .u8 (frr : Int)]], ?_, (HLS.out W).mono ?_⟩
          · go_simp
          · rintro e w2 ⟨rfl, B2⟩; exact ⟨_, rfl, rfl, B2⟩
        refine And.intro ?_ ?_
        · intro d hd ρ W hcs bw hn hg
          cases hd
          have e42 : ρ (.tmp 42) = .bool false := hn 42 (by decide)
          have e49 : ρ (.tmp 49) = .bool false := hn 49 (by decide)
          clear hn hg
          refine .inl ⟨trivial, ?_⟩
          have hc1 := hcs.1
          refine .inl ⟨.bool false, W, ?_, rfl, Below.refl _ _⟩
          go_simp
        trivial
      · intro a' w' hsz hdf hb hVs
        have q50 : a'.eval (.tmp 50) = .bool false := hVs 50
        have ha := slot_over_seg 35 16 [] rfl (by kernel_rfl) (of_decide_eq_true (by kernel_rfl)) hsz hdf hVs
        clear hVs hsz hdf
        rw [show List.range' 35 16 = [35, 36, 37, 38, 39, 40, 41, 42, 43, 44, 45, 46, 47, 48, 49, 50] from rfl] at ha
        simp only [List.take_succ_cons, List.take_zero, List.drop_succ_cons, List.drop_zero, List.map_cons, List.map_nil, List.cons_append, List.nil_append, List.foldl_cons, List.foldl_nil, List.set_cons_zero, List.set_cons_succ, q50] at ha
        clear q50
        generalize a'.eval (.tmp 35) = x35 at ha
        generalize a'.eval (.tmp 36) = x36 at ha
        generalize a'.eval (.tmp 37) = x37 at ha
        generalize a'.eval (.tmp 38) = x38 at ha
        generalize a'.eval (.tmp 39) = x39 at ha
        generalize a'.eval (.tmp 40) = x40 at ha
        generalize a'.eval (.tmp 41) = x41 at ha
        generalize a'.eval (.tmp 42) = x42 at ha
        generalize a'.eval (.tmp 43) = x43 at ha
        generalize a'.eval (.tmp 44) = x44 at ha
        generalize a'.eval (.tmp 45) = x45 at ha
        generalize a'.eval (.tmp 46) = x46 at ha
        generalize a'.eval (.tmp 47) = x47 at ha
        generalize a'.eval (.tmp 48) = x48 at ha
        generalize a'.eval (.tmp 49) = x49 at ha
        subst ha
        have bz : Below w.heap.size w w' := bw.drew.trans (hb.mono bw.drew.size)
        have kz : Blk w' bf 71 #[.int .u64 (fn : Int), .int .u8 (frr : Int)] := kbd.below hb kbd.lt
        have e4 := (HCS.out w' bz).2.2.2
        clear hb bw kb kbd e0 e1 e2 e3 heq HLS HCS
        go_upto_region 8 with fail
        go_cut [14] (fun t wx => t = .bool (one && (decide (s = 0) || decide (vl = xv))) ∧ wx = w')
        case first =>
          cases one
          · go_wp2_with fail
            go_meet
            exact ⟨rfl, rfl⟩
          · by_cases hs0 : s = 0
            · subst hs0
              go_wp2_with fail
              go_meet
              exact ⟨rfl, rfl⟩
            · have hs0i : ((s : Int) == 0) = false := beq_eq_false_iff_ne.2 (by omega)
              have hsd : Hid ((true && (decide (s = 0) || decide (vl = xv))) = decide (vl = xv)) := by show _ = _; rw [decide_eq_false hs0]; simp
              by_cases hvx : vl = xv
              · subst hvx
                clear hs0
                go_wp2_with fail
                go_meet
                exact ⟨by rw [hsd.out]; simp, rfl⟩
              · clear hs0
                go_wp2_with fail
                go_meet
                exact ⟨by rw [hsd.out, decide_eq_false hvx]; exact congrArg Value.bool (beq_eq_false_iff_ne.2 hvx), rfl⟩
        case rest =>
          obtain ⟨rfl, rfl⟩ := hcut
          have hwi : IntKind.u8.wrap (i : Int) = (i : Int) := by rw [IntKind.wrap_u8]; omega
          have HOF := Lib.hid (of_e i (by omega) wc)
          have HWI := Lib.hid (fun W => with_any s (ofN [i]) (by have := HSL.out; omega) (by have := of_lt [i]; omega) W)
          clear HBI
          go_wp2_with fail
          refine HOF.out.mono ?_; rintro e w9 ⟨rfl, B9⟩
          have bz9 := bz.trans (B9.mono bz.size)
          have kz9 := kz.below B9 kz.lt
          clear HOF B9 bz kz e4
          go_wp2_with fail
          refine (HWI.out _).mono ?_; rintro e wa ⟨rfl, rfl⟩
          clear HWI hwi
          go_wp2_with fail
          go_roundg (m - (i + 1))
          case measure => have := HI.out; omega
          case rel => exact ⟨i + 1, _, _, _, by have := HI.out; omega, by go_num, rfl, rfl, rfl, ⟨HTK.out, by omega⟩, kz9, bz9⟩
    · have HEND : Hid (i = 7 ∨ V.length ≤ i) := by
        have := HBI.out.2
        have := HV.out.2.2
        show _ ∨ _
        omega
      have HS128 := Lib.hid HBI.out.1.lt
      go_upto_region 5 with fail
      go_cut [32] (fun t wx => t = .bool false ∧ wx = wr)
      case first =>
        by_cases h4 : i < m
        · have hk4 : (i : Int) < (m : Int) := by omega
          have hk7 : ¬ (i : Int) < 7 := by omega
          clear hgo h4
          go_wp2_with fail
          go_meet
          exact ⟨rfl, rfl⟩
        · have hk4 : ¬ (i : Int) < (m : Int) := by omega
          clear hgo h4
          go_wp2_with fail
          go_meet
          exact ⟨rfl, rfl⟩
      case rest =>
        obtain ⟨rfl, rfl⟩ := hcut
        clear hgo kb hi
        cases one
        · go_wp2_with fail
          refine (wakes_any _).mono ?_; rintro e w2 ⟨rfl, B2⟩
          have bz := bw.trans (B2.mono bw.size)
          go_wp2_with fail
          go_ret
          exact ⟨rfl, bz⟩
        have HMJ := Lib.hid (major_any c s HC.out.1 (by have := HS128.out; omega) wc)
        cases hmj : majorB c s
        · rw [hmj] at HMJ
          clear hmj
          go_wp2_with fail
          refine HMJ.out.mono ?_; rintro e w2 ⟨rfl, rfl⟩
          go_wp2_with fail
          refine (wakes_any _).mono ?_; rintro e w2 ⟨rfl, B2⟩
          have bz := bw.trans (B2.mono bw.size)
          go_wp2_with fail
          go_ret
          exact ⟨rfl, bz⟩
        rw [hmj] at HMJ
        have HMM := Lib.hid hmj
        clear hmj
        by_cases h20 : 20 < n
        · have h20i : (20 : Int) < (n : Int) := by omega
          clear h20
          go_wp2_with fail
          refine HMJ.out.mono ?_; rintro e w2 ⟨rfl, rfl⟩
          go_wp2_with fail
          refine (wakes_any _).mono ?_; rintro e w2 ⟨rfl, B2⟩
          have bz := bw.trans (B2.mono bw.size)
          go_wp2_with fail
          go_ret
          exact ⟨rfl, bz⟩
        have h20i : ¬ (20 : Int) < (n : Int) := by omega
        have HOF := Lib.hid (eof_any 9223372036854775808 0 wc)
        have HNE := Lib.hid (fun W => enew_any ⟨9223372036854775808, 0⟩ (by decide) W)
        unfold bV bC at HOF HNE
        dsimp only at HOF HNE
        have H20 : Hid (n ≤ 20) := by show _ ≤ _; omega
        clear h20
        go_wp2_with fail
        refine HMJ.out.mono ?_; rintro e w2 ⟨rfl, rfl⟩
        clear HMJ
        go_wp2_with fail
        refine HOF.out.mono ?_; rintro e w1 ⟨rfl, B1⟩
        have bw := bw.trans (B1.mono bw.size)
        have HS1 := bw.size
        clear B1 HOF
        go_wp2_with fail
        refine (HNE.out w1).mono ?_; rintro e w2 hnew
        clear HNE
        obtain ⟨g, mg, rfl, r, B2⟩ := hnew
        have bw := bw.trans (B2.mono bw.size)
        have r := r.mono HS1
        clear B2 HS1
        have HT0 := te_new V slot 9223372036854775808 0
        go_wp2_with fail
        clear h20i
        go_loopg [18] n (fun gk v18 wr => ∃ (j : Nat) (q : Ro), j + gk = n ∧ v18 = .int .i64 (j : Int) ∧ RoS w.heap.size g mg q wr ∧ Hid (Te V slot q) ∧ Below w.heap.size w wr)
        case atStart => exact ⟨0, _, by omega, rfl, r, HT0, bw⟩
        case round =>
          clear r bw HT0
          obtain ⟨j, q, hj, rfl, r, HT, bw⟩ := hrel
          by_cases h4 : j < n
          · have hk4 : (j : Int) < (n : Int) := by omega
            obtain ⟨ad, ux, rfl, hadl, hu, hcell⟩ := HL.out.1.at_ h4
            obtain ⟨x, hx, hux⟩ : ∃ x, l[j]? = some x ∧ ux = .int .u8 (x : Int) := by
              rw [List.getElem?_map] at hu
              cases hd : l[j]? with
              | none => rw [hd] at hu; cases hu
              | some y => rw [hd] at hu; exact ⟨y, rfl, (Option.some.inj hu).symm⟩
            subst hux
            have q0 := (bw.cell (p := ad.add j) (by rw [block_of_add]; exact hadl)).trans hcell
            have hx256 := HL.out.2.1 x (List.mem_of_getElem? hx)
            obtain ⟨nd, hnd⟩ : ∃ k, k = x % 7 := ⟨_, rfl⟩
            have hnd7 : nd < 7 := by rw [hnd]; exact Nat.mod_lt _ (by omega)
            have hmod : (x : Int) % 7 = (nd : Int) := by omega
            have hmod2 : (x : Int).tmod 7 = (nd : Int) := by rw [Int.tmod_eq_emod_of_nonneg (by omega)]; exact hmod
            have hwi : IntKind.i64.wrap (nd : Int) = (nd : Int) := by rw [IntKind.wrap_i64]; omega
            have HJ := Lib.hid hj
            have HND := Lib.hid hnd7
            have hi20 : (j : Int) < 20 := by have := H20.out; omega
            have HRQ := Lib.hid r
            clear hu hcell hx hnd hx256 hadl hj
            go_upto_region 21 with fail
            obtain ⟨hv, hhv⟩ : ∃ b, b = (decide (nd < m) && (match V[nd]? with | some y => !(decide ((⟨y.n, y.r⟩ : B) = ⟨0, 0⟩)) | none => false)) := ⟨_, rfl⟩
            have HHV := Lib.hid hhv
            clear hhv hmod hmod2
            go_cut [125] (fun t wx => t = .bool hv ∧ wx = wr)
            case first =>
              by_cases h5 : nd < m
              · have hk5 : (nd : Int) < (m : Int) := by omega
                obtain ⟨y, hy⟩ : ∃ y, V[nd]? = some y := ⟨_, List.getElem?_eq_getElem (by rw [HV.out.2.2]; exact h5)⟩
                obtain ⟨ad2, hAe, hcs⟩ := row4_all HV.out.1 hy
                subst hAe
                have hc := hcs wr bw
                have e1 := hc.2.1
                have e2 := hc.2.2.1
                have heq := fun W => run_zero_ballot y.n y.r W
                have hh := HHV.out
                rw [hy, decide_eq_true h5, Bool.true_and] at hh
                dsimp only at hh
                obtain ⟨bz, hbz⟩ : ∃ b, b = decide ((⟨y.n, y.r⟩ : B) = ⟨0, 0⟩) := ⟨_, rfl⟩
                simp only [← hbz] at heq hh
                have HH2 := Lib.hid hh
                generalize y.n = yn at *
                generalize y.r = yr at *
                clear hc hcs hy hbz h5 hh
                go_wp2_with fail
                go_meet
                exact ⟨by rw [HH2.out], rfl⟩
              · have hk5 : ¬ (nd : Int) < (m : Int) := by omega
                have hh : Hid (hv = false) := by show _ = _; rw [HHV.out, decide_eq_false h5]; rfl
                clear h5
                go_wp2_with fail
                go_meet
                exact ⟨by rw [hh.out], rfl⟩
            case rest =>
              obtain ⟨rfl, rfl⟩ := hcut
              clear q0
              go_upto_if 125 with fail
              go_cut [20] (fun t wx => ∃ (A' : Option Addr) (c' : Nat), t = .slice A' (toldV V slot nd).length c' ∧ Rows wx A' 4 vtL (toldV V slot nd) ∧ (∀ ad, A' = some ad → ad.block ∉ [g, mg]) ∧ Below wc.heap.size wc wx)
              case first =>
                cases hv
                · have ht : toldV V slot nd = [] := by
                    have hh := HHV.out
                    unfold toldV
                    cases hvn : V[nd]? with
                    | none => rfl
                    | some y =>
                      rw [hvn] at hh
                      have h5 : nd < m := by rw [← HV.out.2.2]; exact (List.getElem?_eq_some_iff.1 hvn).1
                      rw [decide_eq_true h5, Bool.true_and] at hh
                      dsimp only at hh ⊢
                      exact if_pos (by simpa [Vt.b] using hh)
                  have HTV := Lib.hid ht
                  clear ht
                  go_wp2_with fail
                  go_meet
                  exact ⟨none, 0, by rw [HTV.out]; rfl, by rw [HTV.out]; exact Rows.nil _ _ _ _, (fun ad he => by cases he), Below.refl _ _⟩
                · have hh := HHV.out
                  have h5 : nd < m := by
                    rcases Nat.lt_or_ge nd m with h | h
                    · exact h
                    · rw [decide_eq_false (by omega), Bool.false_and] at hh; cases hh
                  have hk5 : (nd : Int) < (m : Int) := by omega
                  obtain ⟨y, hy⟩ : ∃ y, V[nd]? = some y := ⟨_, List.getElem?_eq_getElem (by rw [HV.out.2.2]; exact h5)⟩
                  obtain ⟨ad2, hAe, hcs⟩ := row4_all HV.out.1 hy
                  subst hAe
                  have hc := hcs wc bw
                  obtain ⟨ys, yn, yr, yv⟩ := y
                  dsimp only at hc
                  have e0 := hc.1
                  have e1 := hc.2.1
                  have e2 := hc.2.2.1
                  have e3 := hc.2.2.2
                  rw [hy, decide_eq_true h5, Bool.true_and] at hh
                  have ht : toldV V slot nd = [⟨slot, yn, yr, yv⟩] := by
                    unfold toldV
                    rw [hy]
                    dsimp only at hh ⊢
                    exact if_neg (fun e => by rw [decide_eq_true (show (⟨yn, yr⟩ : B) = ⟨0, 0⟩ from e)] at hh; cases hh)
                  -- the vote in a box
                  have b0 := below_1 wc (.cells #[.int .u64 0, .int .u64 0, .int .u8 0, .string ⟨#[]⟩] 73)
                  have k0 := Blk.new wc 73 #[.int .u64 0, .int .u64 0, .int .u8 0, .string ⟨#[]⟩]
                  obtain ⟨wY, hwY⟩ : ∃ wY, wY = wc.alloc (.cells #[.int .u64 0, .int .u64 0, .int .u8 0, .string ⟨#[]⟩] 73) := ⟨_, rfl⟩
                  obtain ⟨gy, hgy⟩ : ∃ g, g = wc.heap.size := ⟨_, rfl⟩
                  rw [← hwY] at b0 k0
                  rw [← hgy] at k0
                  obtain ⟨wZ, hst, kz, hgz⟩ : ∃ w3, (Instr.storeAt 73 (.pointer (some ⟨gy, 0, none⟩)) (.agg #[.int .u64 (ys : Int), .int .u64 (yn : Int), .int .u8 (yr : Int), .string ⟨yv.toArray⟩])).run Try.prog wY = .ok () w3 ∧ Blk w3 gy 73 #[.int .u64 (ys : Int), .int .u64 (yn : Int), .int .u8 (yr : Int), .string ⟨yv.toArray⟩] ∧ wY.grownBy w3 (some gy) := ⟨_, blk_store k0 rfl (by kernel_rfl) rfl, k0.setRow, grown_setRow (World.grownBy.refl _ _) (.inr rfl)⟩
                  have bz := b0.grown hgz b0.size (fun k hk => by cases hk; rw [hgy]; exact Nat.le_refl _)
                  -- its slot
                  obtain ⟨wS, hst2, ks, hgs⟩ := store_slot kz (slot : Int)
                  have bs := bz.grown hgs bz.size (fun k hk => by cases hk; rw [hgy]; exact Nat.le_refl _)
                  have z0 : wS.cell? ⟨wc.heap.size, 0, none⟩ = some (.int .u64 (slot : Int)) := by rw [← hgy]; exact ks.cell 0
                  have z1 : wS.cell? ⟨wc.heap.size, 1, none⟩ = some (.int .u64 (yn : Int)) := by rw [← hgy]; exact ks.cell 1
                  have z2 : wS.cell? ⟨wc.heap.size, 2, none⟩ = some (.int .u8 (yr : Int)) := by rw [← hgy]; exact ks.cell 2
                  have z3 : wS.cell? ⟨wc.heap.size, 3, none⟩ = some (.string ⟨yv.toArray⟩) := by rw [← hgy]; exact ks.cell 3
                  -- the list of it
                  have bl := below_1 wS (.cells #[.int .u64 (slot : Int), .int .u64 (yn : Int), .int .u8 (yr : Int), .string ⟨yv.toArray⟩] 73)
                  obtain ⟨v7, w7, happ, ho7, b7⟩ := app_votes (w := wS.alloc (.cells #[.int .u64 (slot : Int), .int .u64 (yn : Int), .int .u8 (yr : Int), .string ⟨yv.toArray⟩] 73)) (B := wS.heap.size) (l := []) (by simp) (World.ownsRow_nil _ _ _ _) (m := [⟨slot, yn, yr, yv⟩]) (A := some ⟨wS.heap.size, 0, none⟩) (c := 1) (votes_new wS 73 [⟨slot, yn, yr, yv⟩]) (by simp)
                  rw [List.nil_append] at ho7
                  obtain ⟨A7, c7, hv7, _, hr7, hA7⟩ := own_rows_at vtL_len (by omega) ho7
                  subst hv7
                  have b77 : Below wc.heap.size wc w7 := bs.trans ((bl.trans b7).mono bs.size)
                  have hup : Hid (wc.alloc (.cells #[.int .u64 0, .int .u64 0, .int .u8 0, .string ⟨#[]⟩] 73) = wY) := hwY.symm
                  have hug : Hid (wc.heap.size = gy) := hgy.symm
                  have HQ : Hid (∃ (A' : Option Addr) (c' : Nat), Value.slice A7 1 c7 = .slice A' (toldV V slot nd).length c' ∧ Rows w7 A' 4 vtL (toldV V slot nd) ∧ (∀ ad, A' = some ad → ad.block ∉ [g, mg]) ∧ Below wc.heap.size wc w7) := by
                    show ∃ _ _, _
                    rw [ht]
                    exact ⟨A7, c7, rfl, hr7, (fun ad he => by
                      have h1 := hA7 ad he
                      have h2 := HRQ.out.hg.lt
                      have h3 := HRQ.out.hm.lt
                      have h4 := bs.size
                      simp
                      omega), b77⟩
                  generalize (⟨yv.toArray⟩ : ByteArray) = sy at *
                  clear hwY hgy b0 k0 kz hgz bz ks hgs bs bl ho7 b7 hr7 hA7 b77 hy hc hcs hh ht h5
                  go_wp2_with (first | refine wpList_store (by rfl) (.tmp 21) (.tmp 129) (by rfl) (by rfl) (by rfl) (by rw [hup.out, hug.out]; exact hst) ?_ | refine wpList_store (by rfl) (.tmp 131) (.tmp 130) (by rfl) (by rfl) (by rfl) (by rw [hug.out]; exact hst2) ?_ | refine wpList_run_append (by rfl) (.tmp 132) (.tmp 134) 69 (by rfl) (by rfl) (by rfl) happ ?_)
                  go_meet
                  exact HQ.out
              case rest =>
                obtain ⟨A', c', rfl, hr', hA', B6⟩ := hcut
                have bw6 := bw.trans (B6.mono bw.size)
                have r6 := HRQ.out.below B6
                obtain ⟨tl, htl⟩ : ∃ k, k = (toldV V slot nd).length := ⟨_, rfl⟩
                have htl1 : tl ≤ 1 := by
                  rw [htl]
                  unfold toldV
                  split
                  · split <;> simp
                  · simp
                have HAD := Lib.hid (eadd_any r6 bw6.size nd 0 (by have := HND.out; omega) (toldV V slot nd) tl htl.symm (by omega) A' c' hr' (fun _ => hA'))
                rw [← htl]
                have HTA := Lib.hid (te_add HT.out HND.out)
                obtain ⟨q2, hq2⟩ : ∃ q2, q2 = q.add nd 0 (toldV V slot nd) := ⟨_, rfl⟩
                rw [← hq2] at HAD HTA
                have HR6 := Lib.hid r6
                clear hq2 htl htl1 hr' hA' r6 HRQ HT HHV hwi B6
                obtain ⟨er, her⟩ : ∃ er, er = addE q nd := ⟨_, rfl⟩
                rw [← her] at HAD
                clear her
                go_wp2_with fail
                refine HAD.out.mono ?_; rintro e w8 hret
                obtain ⟨rfl, r8, o8⟩ := hret
                have bw8 := HR6.out.bw o8 bw6 (Nat.le_refl _)
                have HR8 := Lib.hid r8
                have HM8 := Lib.hid (emay_any r8 slot c HC.out.1)
                have HB8 := Lib.hid (ebound_any r8 slot)
                have HBD := Lib.hid (fun h => binds HBI.out.1 HEND.out HMM.out HTA.out (h : mayR q2 slot c = true))
                clear HAD o8 bw6 HR6 r8
                by_cases hs0 : 0 < slot
                · have hs0i : (0 : Int) < (slot : Int) := by omega
                  cases hmr : mayR q2 slot c
                  · rw [hmr] at HM8
                    clear hmr hs0
                    go_wp2_with fail
                    refine HM8.out.mono ?_; rintro e w9 ⟨rfl, rfl⟩
                    go_wp2_with fail
                    go_roundg (n - (j + 1))
                    case measure => have := HJ.out; omega
                    case rel => exact ⟨j + 1, q2, by have := HJ.out; omega, by go_num, HR8.out, HTA, bw8⟩
                  · rw [hmr] at HM8
                    rw [(HBD.out hmr).1, (HBD.out hmr).2] at HB8
                    clear hmr hs0
                    go_wp2_with fail
                    refine HM8.out.mono ?_; rintro e w9 ⟨rfl, rfl⟩
                    go_wp2_with fail
                    refine HB8.out.mono ?_; rintro e w9 ⟨rfl, B9⟩
                    have bw9 := bw8.trans (B9.mono bw8.size)
                    have HR9 := Lib.hid (HR8.out.below B9)
                    clear HB8 B9 bw8
                    go_wp2_with fail
                    go_roundg (n - (j + 1))
                    case measure => have := HJ.out; omega
                    case rel => exact ⟨j + 1, q2, by have := HJ.out; omega, by go_num, HR9.out, HTA, bw9⟩
                · have hs0i : ¬ (0 : Int) < (slot : Int) := by omega
                  clear hs0
                  go_wp2_with fail
                  go_roundg (n - (j + 1))
                  case measure => have := HJ.out; omega
                  case rel => exact ⟨j + 1, q2, by have := HJ.out; omega, by go_num, HR8.out, HTA, bw8⟩
          · have hk4 : ¬ (j : Int) < (n : Int) := by omega
            clear r HT
            go_wp2_with fail
            refine (wakes_any _).mono ?_; rintro e w2 ⟨rfl, B2⟩
            have bz := bw.trans (B2.mono bw.size)
            go_wp2_with fail
            go_ret
            exact ⟨rfl, bz⟩
end Go.Proofs.Ytbamfnlgapchkaa.Ele
