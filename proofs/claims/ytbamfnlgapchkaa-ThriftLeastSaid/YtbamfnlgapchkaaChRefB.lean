/- The reference of a chain, walked: New, Push. Conditions: the lists can be read. -/
import Derived.Test.YtbamfnlgapchkaaChRef
namespace Go.Proofs.Ytbamfnlgapchkaa.Chn
open Go.RowKit Mem DrawInv

theorem exec_build1 {P : Program} {w w' : World} {ρ : Operand → Value} {o : Oper} {t : TypeId} {x : Operand} {vx v : Value} (ho : o.op = .buildSlice t 1 #[(0, x)]) (hx : ρ x = vx) (hr : (Instr.buildSlice t 1 #[(0, vx)]).run P w = .ok v w') : (execOp ρ o).run P w = .ok (.value v) w' := by
  unfold execOp
  simp only [ho, hx, List.map_toArray, List.map_cons, List.map_nil, Sem.run_bind, Sem.run_pure, Result.andThen_ok, hr]
theorem build_b (s : Nat) (w : World) : (Instr.buildSlice 22 1 #[(0, .int .u8 (s : Int))]).run Try.prog w = .ok (.slice (some ⟨w.heap.size, 0, none⟩) 1 1) (w.alloc (.cells #[.int .u8 (s : Int)] 5)) := by go_simp
/-- A chain stored whole. -/
theorem st_rc {w : World} {g : Nat} {old : Array Value} (h : Blk w g 36 old) (ho : old.size = 2) (x : Int) (A : Option Addr) (n k : Nat) : ∃ w', (Instr.storeAt 36 (.pointer (some ⟨g, 0, none⟩)) (.agg #[.int .u64 x, .slice A n k])).run Try.prog w = .ok () w' ∧ Blk w' g 36 #[.int .u64 x, .slice A n k] ∧ w.grownBy w' (some g) :=
  ⟨_, blk_store h ho size_rc rfl, Blk.setRow h, grown_setRow (World.grownBy.refl _ _) (.inr rfl)⟩
theorem app_b {w : World} {B n m : Nat} {v : Value} {xs ys : List Nat} (ho : w.ownsRow B 5 1 v n (xs.map u8v)) (hB : B ≤ w.heap.size) (hn : n ≤ 100000) {A : Option Addr} {c : Nat} (hr : Reads w w.heap.size 1 A m (ys.map u8v)) (hm : m ≤ 100000) :
    ∃ v' w', (Builtin.append_ #[22, 22] 22 #[v, .slice A m c]).run Try.prog w = .ok v' w' ∧ w'.ownsRow B 5 1 v' (n + m) ((xs ++ ys).map u8v) ∧ Below B w w' ∧ (w.grownBy w' v.ownBlock) := by
  have hinf : (Try.prog.info? 5).map (fun i => (i.zero, i.size, i.bytes)) = some (some (.int .u8 0), 1, 1) := by kernel_rfl
  obtain ⟨i, hi, hz, hs, hby⟩ := info_parts hinf
  obtain ⟨v1, w1, h1, o1, g1, _⟩ := run_append_any (P := Try.prog) w B 22 22 5 i (.int .u8 0) 1 1 Try.underlying22 hi hz hs hby rfl (by omega) v n _ ho _ A m c _ hr (one_u8v ys) (by unfold maxLen; omega) (by omega) hB
  rw [← List.map_append] at o1
  exact ⟨v1, w1, h1, o1, (Below.refl B w).grown g1 hB (fun k hk => (ho.lt k hk).1), g1⟩
/-- A byte of its own. -/
theorem one_row (w : World) (s : Nat) : Reads (w.alloc (.cells #[.int .u8 (s : Int)] 5)) (w.alloc (.cells #[.int .u8 (s : Int)] 5)).heap.size 1 (some ⟨w.heap.size, 0, none⟩) 1 ([s].map u8v) :=
  Reads.of_own (own1_of_blk (B := 0) (n := 1) (size := 1) (Blk.new w 5 #[.int .u8 (s : Int)]) (Nat.zero_le _) rfl (by simp) (by unfold maxLen; omega))
/-- append(append(nil, l...), s): whichever comes first, the clone or the byte's own row. -/
theorem app_push {w : World} {l : List Nat} {n : Nat} {A : Option Addr} {k : Nat} (hr : Reads w w.heap.size 1 A n (l.map u8v)) (hl : n ≤ 2000) (s : Nat) :
    (∃ v1 w1 g wc A2 k2 w2, (Builtin.append_ #[22, 22] 22 #[.slice none 0 0, .slice A n k]).run Try.prog w = .ok v1 w1 ∧
      (Instr.buildSlice 22 1 #[(0, .int .u8 (s : Int))]).run Try.prog w1 = .ok (.slice (some ⟨g, 0, none⟩) 1 1) wc ∧
      (Builtin.append_ #[22, 22] 22 #[v1, .slice (some ⟨g, 0, none⟩) 1 1]).run Try.prog wc = .ok (.slice A2 (n + 1) k2) w2 ∧
      w2.ownsRow w.heap.size 5 1 (.slice A2 (n + 1) k2) (n + 1) ((l ++ [s]).map u8v) ∧ Below w.heap.size w w2 ∧ Below w.heap.size w w1 ∧ Below w.heap.size w wc) ∧
    (∃ g wc v1 w1 A2 k2 w2, (Instr.buildSlice 22 1 #[(0, .int .u8 (s : Int))]).run Try.prog w = .ok (.slice (some ⟨g, 0, none⟩) 1 1) wc ∧
      (Builtin.append_ #[22, 22] 22 #[.slice none 0 0, .slice A n k]).run Try.prog wc = .ok v1 w1 ∧
      (Builtin.append_ #[22, 22] 22 #[v1, .slice (some ⟨g, 0, none⟩) 1 1]).run Try.prog w1 = .ok (.slice A2 (n + 1) k2) w2 ∧
      w2.ownsRow w.heap.size 5 1 (.slice A2 (n + 1) k2) (n + 1) ((l ++ [s]).map u8v) ∧ Below w.heap.size w w2 ∧ Below w.heap.size w w1 ∧ Below w.heap.size w wc) := by
  constructor
  · obtain ⟨v1, w1, happ1, ho1, b1, _⟩ := app_b (w := w) (B := w.heap.size) (n := 0) (xs := []) (World.ownsRow_nil _ _ _ _) (Nat.le_refl _) (by omega) (c := k) hr (by omega)
    rw [List.nil_append, Nat.zero_add] at ho1
    have bz : Below w1.heap.size w1 (w1.alloc (.cells #[.int .u8 (s : Int)] 5)) := (Below.refl _ w1).alloc (Nat.le_refl _) _
    have b2 := b1.trans (bz.mono b1.size)
    have ho2 := own1_below ho1 bz (fun g hg => (ho1.lt g hg).2)
    obtain ⟨v2, w2, happ2, ho3, b3, _⟩ := app_b ho2 b2.size (by omega) (c := 1) (one_row w1 s) (by omega)
    obtain ⟨A2, k2, rfl, _, _⟩ := Byt.own_slice1 ho3
    exact ⟨v1, w1, _, _, A2, k2, w2, happ1, build_b s w1, happ2, ho3, b2.trans b3, b1, b2⟩
  · have b0 : Below w.heap.size w (w.alloc (.cells #[.int .u8 (s : Int)] 5)) := (Below.refl _ w).alloc (Nat.le_refl _) _
    have hn0 := Blk.new w 5 #[.int .u8 (s : Int)]
    obtain ⟨v1, w1, happ1, ho1, b1, hg1⟩ := app_b (w := w.alloc (.cells #[.int .u8 (s : Int)] 5)) (B := w.heap.size) (n := 0) (xs := []) (World.ownsRow_nil _ _ _ _) b0.size (by omega) (c := k) (hr.below b0 |>.more b0.size) (by omega)
    rw [List.nil_append, Nat.zero_add] at ho1
    have hb1 := b0.trans b1
    have hn : Reads w1 w1.heap.size 1 (some ⟨w.heap.size, 0, none⟩) 1 ([s].map u8v) := Reads.of_own (own1_of_blk (B := 0) (n := 1) (size := 1) (hn0.grown hg1 (fun h => by cases h)) (Nat.zero_le _) rfl (by simp) (by unfold maxLen; omega))
    obtain ⟨v2, w2, happ2, ho3, b3, _⟩ := app_b ho1 hb1.size (by omega) (c := 1) hn (by omega)
    obtain ⟨A2, k2, rfl, _, _⟩ := Byt.own_slice1 ho3
    exact ⟨_, _, v1, w1, A2, k2, w2, build_b s w, happ1, happ2, ho3, hb1.trans b3, hb1, b0⟩
/-- A chain with its row of its own, as a value. -/
theorem refC_own {w : World} {B : Nat} {c : Ch} {A : Option Addr} {n k : Nat} (hn : c.dirs.length = n) (ho : w.ownsRow B 5 1 (.slice A n k) n (c.dirs.map u8v)) : RefC w c A (.agg #[.int .u64 (c.low : Int), .slice A n k]) ∧ ∀ ad, A = some ad → B ≤ ad.block := by
  obtain ⟨A', k', he, hk, hr⟩ := Byt.own_slice1 ho
  obtain ⟨rfl, -, rfl⟩ := Value.slice.inj he
  refine ⟨⟨k, by rw [hn], by rw [hn]; exact hk, by rw [hn]; exact hr⟩, fun ad he => ?_⟩
  subst he
  exact (ho.lt ad.block rfl).1
/-- What a function of the reference hands back: a chain, and an errno. -/
def RRet (w : World) (A : Option Addr) (c : Ch) (er : Nat) (e : Ending) (w' : World) : Prop := ∃ A' u, e = .returned (.tuple #[u, .int .i64 (er : Int)]) ∧ RefC w' c A' u ∧ FromA w A A'
def NewRR (w : World) (b : Bool) (s : Nat) (e : Ending) (w' : World) : Prop := (b = true ∧ RRet w none ⟨0, [s]⟩ 0 e w') ∨ (b = false ∧ e = .returned (.tuple #[.agg #[.int .u64 0, .slice none 0 0], .int .i64 2]))
set_option linter.unusedVariables false in
set_option maxRecDepth 100000 in
set_option maxHeartbeats 2000000 in
theorem rnew_any (s : Nat) (w : World) : Calls Try.prog 30 #[.int .u8 (s : Int)] w fun e w' => NewRR w (dirB s) s e w' ∧ Below w.heap.size w w' := by
  have HD := Lib.hid (fun W => rdir_any s W)
  have k0 := Blk.new w 36 #[.int .u64 0, .slice none 0 0]
  have bw : Below w.heap.size w (w.alloc (.cells #[.int .u64 0, .slice none 0 0] 36)) := (Below.refl _ w).alloc (Nat.le_refl _) _
  have hlt := k0.lt
  cases hd : dirB s
  · rw [hd] at HD
    obtain ⟨w3, hst, k3, hg3⟩ := st_rc k0 rfl 0 none 0 0
    have b3 := bw.grown hg3 bw.size (fun k hk => by cases hk; exact Nat.le_refl _)
    have HLD := Lib.hid (blk_loadVar (P := Try.prog) (ty := 36) k3 Try.underlying36 rfl size_rc)
    clear hd k0 k3 hg3
    go_enter Try.func30, Try.ntmps30
    go_wp2_with fail
    refine (HD.out _).mono ?_; rintro e w' ⟨rfl, rfl⟩
    go_wp2_with (refine wpList_store (by rfl) (.tmp 2) (.tmp 7) (by rfl) (by rfl) (by rfl) hst ?_)
    exact bodyPost_ret (v := .tuple #[.agg #[.int .u64 0, .slice none 0 0], .int .i64 2]) (by simp [results, Try.results30, asAddr, HLD.out]) rfl ⟨.inr ⟨rfl, rfl⟩, b3⟩
  · rw [hd] at HD
    obtain ⟨wA, hwA⟩ : ∃ wA, wA = w.alloc (.cells #[.int .u64 0, .slice none 0 0] 36) := ⟨_, rfl⟩
    rw [← hwA] at k0 bw hlt
    have kr := Blk.new wA 5 #[.int .u8 (s : Int)]
    have bA : Below wA.heap.size wA (wA.alloc (.cells #[.int .u8 (s : Int)] 5)) := (Below.refl _ wA).alloc (Nat.le_refl _) _
    have k1 := k0.below bA k0.lt
    obtain ⟨w3, hst, k3, hg3⟩ := st_rc k1 rfl 0 (some ⟨wA.heap.size, 0, none⟩) 1 1
    have hne : wA.heap.size ≠ w.heap.size := by have := bw.size; omega
    have kr3 : Blk w3 wA.heap.size 5 #[.int .u8 (s : Int)] := kr.grown hg3 (fun h => hne (Option.some.inj h))
    have b2 := bw.trans (bA.mono bw.size)
    have b3 := b2.grown hg3 b2.size (fun k hk => by cases hk; exact Nat.le_refl _)
    obtain ⟨hrc, hbl⟩ := refC_own (w := w3) (B := w.heap.size) (c := ⟨0, [s]⟩) (A := some ⟨wA.heap.size, 0, none⟩) (n := 1) (k := 1) rfl (own1_of_blk kr3 bw.size rfl rfl (by unfold maxLen; omega))
    have HQ : Hid (RRet w none ⟨0, [s]⟩ 0 (.returned (.tuple #[.agg #[.int .u64 0, .slice (some ⟨wA.heap.size, 0, none⟩) 1 1], .int .i64 0])) w3) := ⟨_, _, rfl, hrc, fun ad he => .inr (hbl ad he)⟩
    have HLD := Lib.hid (blk_loadVar (P := Try.prog) (ty := 36) k3 Try.underlying36 rfl size_rc)
    have HSZ := Lib.hid (build_b s wA)
    clear hd k0 k1 k3 hg3 kr kr3 bA b2 hrc hbl bw hlt hne
    go_enter Try.func30, Try.ntmps30
    go_upto_region 1 with fail
    rw [← hwA]
    clear hwA
    go_wp2_with fail
    refine (HD.out _).mono ?_; rintro e w' ⟨rfl, rfl⟩
    go_wp2_with (refine wpList_store (by rfl) (.tmp 2) (.tmp 10) (by rfl) (by rfl) (by rfl) hst ?_)
    exact bodyPost_ret (v := .tuple #[.agg #[.int .u64 0, .slice (some ⟨_, 0, none⟩) 1 1], .int .i64 0]) (by simp [results, Try.results30, asAddr, HLD.out]) rfl ⟨.inl ⟨rfl, HQ.out⟩, b3⟩
theorem ld_lo {w : World} {g : Nat} {x : Int} {v : Value} (h : Blk w g 36 #[.int .u64 x, v]) : (Instr.loadAt 26 (.pointer (some ⟨g, 0, none⟩))).run Try.prog w = .ok (.int .u64 x) w := by
  have c0 := h.cell 0
  go_simp
theorem ld_row {w : World} {g : Nat} {x : Int} {A : Option Addr} {n k : Nat} (h : Blk w g 36 #[.int .u64 x, .slice A n k]) : (Instr.loadAt 22 (.pointer (some ⟨g, 1, none⟩))).run Try.prog w = .ok (.slice A n k) w := by
  have c1 := h.cell 1
  go_simp
set_option linter.unusedSimpArgs false in
set_option linter.unusedVariables false in
set_option maxRecDepth 100000 in
set_option maxHeartbeats 2000000 in
theorem rpush_any (c : Ch) (hc : c.Ok) (s : Nat) (A : Option Addr) (u : Value) (w : World) (h : RefC w c A u) : Calls Try.prog 21 #[u, .int .u8 (s : Int)] w fun e w' => RRet w A (c.push s).1 (c.push s).2 e w' ∧ Below w.heap.size w w' := by
  have HD := Lib.hid (fun W => rdir_any s W)
  have HT := Lib.hid (fun (W : World) (hb : Below w.heap.size w W) => rtop_any c hc.ne hc.up hc.len A u W (h.below hb))
  have HRC := Lib.hid h
  obtain ⟨cp, rfl, hcp, hr⟩ := h
  obtain ⟨n, hn⟩ : ∃ n, n = c.dirs.length := ⟨_, rfl⟩
  have hn1 : n ≤ 1000 := by rw [hn]; exact hc.len
  rw [← hn] at HT HRC hcp hr ⊢
  obtain ⟨lo, hlo⟩ : ∃ lo, lo = c.low := ⟨_, rfl⟩
  rw [← hlo] at HT HRC ⊢
  obtain ⟨gx, hgx⟩ : ∃ g, g = w.heap.size := ⟨_, rfl⟩
  obtain ⟨ga, hga⟩ : ∃ g, g = w.heap.size + 1 := ⟨_, rfl⟩
  obtain ⟨wA, hwA⟩ : ∃ wA, wA = (w.alloc (.cells #[.int .u64 (lo : Int), .slice A n cp] 36)).alloc (.cells #[.int .u64 0, .slice none 0 0] 36) := ⟨_, rfl⟩
  have hs1 : (w.alloc (.cells #[.int .u64 (lo : Int), .slice A n cp] 36)).heap.size = ga := by rw [hga, World.alloc, Array.size_push]
  have kx := (Blk.new w 36 #[.int .u64 (lo : Int), .slice A n cp]).alloc (.cells #[.int .u64 0, .slice none 0 0] 36)
  have ka := Blk.new (w.alloc (.cells #[.int .u64 (lo : Int), .slice A n cp] 36)) 36 #[.int .u64 0, .slice none 0 0]
  have bw : Below w.heap.size w ((w.alloc (.cells #[.int .u64 (lo : Int), .slice A n cp] 36)).alloc (.cells #[.int .u64 0, .slice none 0 0] 36)) := ((Below.refl _ w).alloc (Nat.le_refl _) _).alloc (by rw [hs1, hga]; omega) _
  rw [hs1, ← hwA] at ka
  rw [← hgx, ← hwA] at kx
  rw [← hwA] at bw
  have hgl : w.heap.size ≤ ga := by omega
  have hgn : gx ≠ ga := by omega
  have HLO := Lib.hid hlo
  have HN := Lib.hid hn
  clear hs1 hlo hn
  have x0 := kx.cell 0
  have x1 := kx.cell 1
  obtain ⟨c', er, hp⟩ : ∃ c' er, c.push s = (c', er) := ⟨_, _, rfl⟩
  rw [hp]
  unfold Ch.push at hp
  cases hd : dirB s
  · rw [hd] at HD
    rw [hd, if_pos rfl] at hp
    obtain ⟨rfl, rfl⟩ := Prod.mk.inj hp
    obtain ⟨w3, hst, k3, hg3⟩ := st_rc ka rfl (lo : Int) A n cp
    have b3 := bw.grown hg3 bw.size (fun k hk => by cases hk; exact hgl)
    have HLD := Lib.hid (blk_loadVar (P := Try.prog) (ty := 36) k3 Try.underlying36 rfl size_rc)
    have HQ : Hid (RRet w A c 2 (.returned (.tuple #[.agg #[.int .u64 (lo : Int), .slice A n cp], .int .i64 (2 : Nat)])) w3) := ⟨_, _, rfl, HRC.out.below b3, FromA.refl _ _⟩
    clear hd hp ka k3 hg3 hr HT kx bw hgl hgn hcp
    go_enter Try.func21, Try.ntmps21
    go_upto_region 1 with fail
    rw [← hwA, ← hga, ← hgx]
    clear hwA hga hgx
    go_wp2_with fail
    refine (HD.out _).mono ?_; rintro e w' ⟨rfl, rfl⟩
    go_wp2_with (refine wpList_store (by rfl) (.tmp 4) (.tmp 9) (by rfl) (by rfl) (by rfl) hst ?_)
    exact bodyPost_ret (v := .tuple #[.agg #[.int .u64 (lo : Int), .slice A n cp], .int .i64 2]) (by simp [results, Try.results21, asAddr, HLD.out]) rfl ⟨HQ.out, b3⟩
  rw [hd] at HD
  rw [hd, if_neg (by decide)] at hp
  have HT1 := HT.out wA bw
  obtain ⟨tp, htp⟩ : ∃ tp, tp = c.top := ⟨_, rfl⟩
  rw [← htp] at HT1 hp
  have HT := Lib.hid HT1
  by_cases h7 : 4611686018427387904 ≤ tp
  · rw [if_pos h7] at hp
    obtain ⟨rfl, rfl⟩ := Prod.mk.inj hp
    have h7i : ((4611686018427387904 : Int) ≤ (tp : Int)) = True := eq_true (by omega)
    have HQ : Hid (∀ w', Below w.heap.size w w' → RRet w A c 7 (.returned (.tuple #[.agg #[.int .u64 (lo : Int), .slice A n cp], .int .i64 (7 : Nat)])) w') := fun w' hb => ⟨_, _, rfl, HRC.out.below hb, FromA.refl _ _⟩
    clear hd hp hr hgn hcp HT1 h7 htp
    go_enter Try.func21, Try.ntmps21
    go_upto_region 1 with fail
    rw [← hwA, ← hga, ← hgx]
    clear hwA hga hgx
    go_wp2_with fail
    refine (HD.out _).mono ?_; rintro e w' ⟨rfl, rfl⟩
    go_wp2_with fail
    refine HT.out.mono ?_; rintro e w2 ⟨rfl, B2⟩
    have ka2 := ka.below B2 ka.lt
    have kx2 := kx.below B2 kx.lt
    have bw2 := bw.trans (B2.mono bw.size)
    obtain ⟨w3, hst, k3, hg3⟩ := st_rc ka2 rfl (lo : Int) A n cp
    have b3 := bw2.grown hg3 bw2.size (fun k hk => by cases hk; exact hgl)
    have HLD := Lib.hid (blk_loadVar (P := Try.prog) (ty := 36) k3 Try.underlying36 rfl size_rc)
    have HQ2 := Lib.hid (HQ.out w3 b3)
    clear x0 x1
    have x0 := kx2.cell 0
    have x1 := kx2.cell 1
    clear ka k3 hg3 HT kx bw hgl B2 ka2 kx2 bw2 HQ
    go_wp2_with (refine wpList_store (by rfl) (.tmp 4) (.tmp 13) (by rfl) (by rfl) (by rfl) hst ?_)
    exact bodyPost_ret (v := .tuple #[.agg #[.int .u64 (lo : Int), .slice A n cp], .int .i64 7]) (by simp [results, Try.results21, asAddr, HLD.out]) rfl ⟨HQ2.out, b3⟩
  rw [if_neg h7] at hp
  obtain ⟨rfl, rfl⟩ := Prod.mk.inj hp
  have h7i : ((4611686018427387904 : Int) ≤ (tp : Int)) = False := eq_false (by omega)
  clear hd hp HT1 h7 htp
  go_enter Try.func21, Try.ntmps21
  go_upto_region 1 with fail
  rw [← hwA, ← hga, ← hgx]
  clear hwA hga hgx
  go_wp2_with fail
  refine (HD.out _).mono ?_; rintro e w' ⟨rfl, rfl⟩
  go_wp2_with fail
  refine HT.out.mono ?_; rintro e w2 ⟨rfl, B2⟩
  have ka2 := ka.below B2 ka.lt
  have kx2 := kx.below B2 kx.lt
  have bw2 := bw.trans (B2.mono bw.size)
  have hr2 := hr.below bw2
  clear x0 x1 ka kx bw B2 HT
  go_upto_region 5 with fail
  have hrd : Reads w2.drew w2.drew.heap.size 1 A n (c.dirs.map u8v) := hr2.more bw2.size
  have bwd : Below w.heap.size w w2.drew := bw2.drew
  obtain ⟨⟨v1, wB, gB, wBc, A2, k2, wE, a1, ab, a2, a3, a4, a5, a6⟩, ⟨gC, wC, v1', wC', A2', k2', wE', bb, b1, b2, b3, b4, b5, b6⟩⟩ := app_push (k := cp) hrd (by omega) s
  have hx := kx2.drew
  have ha := ka2.drew
  have hx1 := hx.below a5 hx.lt
  have hx2 := hx.below a6 hx.lt
  have hx3 := hx.below a4 hx.lt
  have hx4 := hx.below b6 hx.lt
  have hx5 := hx.below b5 hx.lt
  have hx6 := hx.below b4 hx.lt
  obtain ⟨wF, sa, k3, hg3⟩ := st_rc (ha.below a4 ha.lt) rfl (lo : Int) A2 (n + 1) k2
  obtain ⟨wF', sb, k3', hg3'⟩ := st_rc (ha.below b4 ha.lt) rfl (lo : Int) A2' (n + 1) k2'
  have hx7 : Blk wF gx 36 _ := hx3.grown hg3 (fun h => hgn (Option.some.inj h))
  have hx8 : Blk wF' gx 36 _ := hx6.grown hg3' (fun h => hgn (Option.some.inj h))
  have bzA := (bwd.trans (a4.mono bwd.size)).grown hg3 (Nat.le_trans bwd.size a4.size) (fun k hk => by cases hk; exact hgl)
  have bzB := (bwd.trans (b4.mono bwd.size)).grown hg3' (Nat.le_trans bwd.size b4.size) (fun k hk => by cases hk; exact hgl)
  have HLA := Lib.hid (blk_loadVar (P := Try.prog) (ty := 36) k3 Try.underlying36 rfl size_rc)
  have HLB := Lib.hid (blk_loadVar (P := Try.prog) (ty := 36) k3' Try.underlying36 rfl size_rc)
  have HQA : Hid (RRet w A ⟨c.low, c.dirs ++ [s]⟩ 0 (.returned (.tuple #[.agg #[.int .u64 (lo : Int), .slice A2 (n + 1) k2], .int .i64 (0 : Nat)])) wF) := by
    obtain ⟨q1, q2⟩ := refC_own (c := ⟨c.low, c.dirs ++ [s]⟩) (n := n + 1) (by rw [HN.out]; simp) (own1_grown a3 hg3 (fun r hr he => by have := (a3.lt r hr).1; have := ha.lt; have := Option.some.inj he; omega))
    exact ⟨_, _, rfl, by rw [HLO.out]; exact q1, fun ad he => .inr (Nat.le_trans bwd.size (q2 ad he))⟩
  have HQB : Hid (RRet w A ⟨c.low, c.dirs ++ [s]⟩ 0 (.returned (.tuple #[.agg #[.int .u64 (lo : Int), .slice A2' (n + 1) k2'], .int .i64 (0 : Nat)])) wF') := by
    obtain ⟨q1, q2⟩ := refC_own (c := ⟨c.low, c.dirs ++ [s]⟩) (n := n + 1) (by rw [HN.out]; simp) (own1_grown b3 hg3' (fun r hr he => by have := (b3.lt r hr).1; have := ha.lt; have := Option.some.inj he; omega))
    exact ⟨_, _, rfl, by rw [HLO.out]; exact q1, fun ad he => .inr (Nat.le_trans bwd.size (q2 ad he))⟩
  clear a3 a4 a5 a6 b3 b4 b5 b6 k3 k3' hg3 hg3' hrd bwd hr2 ka2 kx2 bw2 ha hr hcp HRC HD
  refine wp_region_held_drew (S := (fun W : World => Blk W gx 36 #[.int .u64 (lo : Int), .slice A n cp])) (by kernel_rfl) (hx) (fun hHeld => ?_)
  refine take1 (i := 0) (d := 14) (v := ?_) rfl (by kernel_rfl) (by kernel_rfl) (by kernel_rfl) rfl (fun _ _ _ h => h) (Or.inl ⟨by rfl, ?_⟩) (by assumption) ?_
  rotate_left
  · (intro w hSw; (try dsimp only at hSw); go_simp); with_reducible rfl
  simp only [List.set_cons_zero, List.set_cons_succ]
  refine take1 (i := 1) (d := 15) (v := ?_) rfl (by kernel_rfl) (by kernel_rfl) (by kernel_rfl) rfl (fun _ _ _ h => h) (Or.inl ⟨by rfl, ?_⟩) (by assumption) ?_
  rotate_left
  · intro w hSw; refine (exec_load (.tmp 14) (by rfl) (by rfl) (ld_lo hSw)).trans ?_; with_reducible rfl
  simp only [List.set_cons_zero, List.set_cons_succ]
  refine take1 (i := 2) (d := 16) (v := ?_) rfl (by kernel_rfl) (by kernel_rfl) (by kernel_rfl) rfl (fun _ _ _ h => h) (Or.inl ⟨by rfl, ?_⟩) (by assumption) ?_
  rotate_left
  · (intro w hSw; (try dsimp only at hSw); go_simp); with_reducible rfl
  simp only [List.set_cons_zero, List.set_cons_succ]
  refine take1 (i := 3) (d := 17) (v := ?_) rfl (by kernel_rfl) (by kernel_rfl) (by kernel_rfl) rfl (fun _ _ _ h => h) (Or.inl ⟨by rfl, ?_⟩) (by assumption) ?_
  rotate_left
  · intro w hSw; refine (exec_load (.tmp 16) (by rfl) (by rfl) (ld_row hSw)).trans ?_; with_reducible rfl
  simp only [List.set_cons_zero, List.set_cons_succ]
  refine take1 (i := 5) (d := 19) (v := ?_) rfl (by kernel_rfl) (by kernel_rfl) (by kernel_rfl) rfl (fun _ _ _ h => h) (Or.inl ⟨by rfl, ?_⟩) (by assumption) ?_
  rotate_left
  · (intro w hSw; (try dsimp only at hSw); go_simp); with_reducible rfl
  simp only [List.set_cons_zero, List.set_cons_succ]
  refine wpAnyH_ready (rs := [4, 6]) (by kernel_rfl) (by simp) (AllReadyH.cons rfl (fun Kreg hKreg => ?_) (AllReadyH.cons rfl (fun Kreg hKreg => ?_) AllReadyH.nil))
  · refine step_run_append (by rfl) (.const (.slice none 0 0)) (.tmp 17) 22 (by rfl) (by rfl) (by rfl) (by first | exact a1 | exact b1) ?_
    refine hKreg.out _ _ ((by first | exact hx1 | exact hx2 | exact hx3 | exact hx4 | exact hx5 | exact hx6 | exact hx7 | exact hx8)) (fun hHeld => ?_)
    clear hKreg Kreg
    refine wpAnyH_put (d := 18) (by rfl) ?_
    simp only [List.set_cons_zero, List.set_cons_succ]
    refine wpAnyH_ready (rs := [6]) (by kernel_rfl) (by simp) (AllReadyH.cons rfl (fun Kreg hKreg => ?_) AllReadyH.nil)
    refine step_exec (by rfl) _ _ (exec_build1 (t := 22) (x := .tmp 19) (by rfl) (by rfl) (by first | exact ab | exact bb)) ?_
    refine hKreg.out _ _ ((by first | exact hx1 | exact hx2 | exact hx3 | exact hx4 | exact hx5 | exact hx6 | exact hx7 | exact hx8)) (fun hHeld => ?_)
    clear hKreg Kreg
    refine wpAnyH_put (d := 20) (by rfl) ?_
    simp only [List.set_cons_zero, List.set_cons_succ]
    refine wpAnyH_ready (rs := [7]) (by kernel_rfl) (by simp) (AllReadyH.cons rfl (fun Kreg hKreg => ?_) AllReadyH.nil)
    refine step_run_append (by rfl) (.tmp 18) (.tmp 20) 22 (by rfl) (by rfl) (by rfl) (by first | exact a2 | exact b2) ?_
    refine hKreg.out _ _ ((by first | exact hx1 | exact hx2 | exact hx3 | exact hx4 | exact hx5 | exact hx6 | exact hx7 | exact hx8)) (fun hHeld => ?_)
    clear hKreg Kreg
    refine wpAnyH_put (d := 21) (by rfl) ?_
    simp only [List.set_cons_zero, List.set_cons_succ]
    refine take1 (i := 8) (d := 22) (v := ?_) rfl (by kernel_rfl) (by kernel_rfl) (by kernel_rfl) rfl (fun _ _ _ h => h) (Or.inl ⟨by rfl, ?_⟩) (by assumption) ?_
    rotate_left
    · (intro w hSw; (try dsimp only at hSw); go_simp); with_reducible rfl
    simp only [List.set_cons_zero, List.set_cons_succ]
    refine wpAnyH_ready (rs := [9]) (by kernel_rfl) (by simp) (AllReadyH.cons rfl (fun Kreg hKreg => ?_) AllReadyH.nil)
    refine step_store (by rfl) (.tmp 4) (.tmp 22) (by rfl) (by rfl) (by rfl) (by first | exact sa | exact sb) ?_
    refine hKreg.out _ _ ((by first | exact hx1 | exact hx2 | exact hx3 | exact hx4 | exact hx5 | exact hx6 | exact hx7 | exact hx8)) (fun hHeld => ?_)
    clear hKreg Kreg
    try simp only [Act.put, List.setIfInBounds_toArray, List.set_cons_zero, List.set_cons_succ]
    refine take1 (i := 10) (d := 5) (v := ?_) rfl (by kernel_rfl) (by kernel_rfl) (by kernel_rfl) rfl (fun _ _ _ h => h) (Or.inl ⟨by rfl, ?_⟩) (by assumption) ?_
    rotate_left
    · (intro w hSw; (try dsimp only at hSw); go_simp); with_reducible rfl
    simp only [List.set_cons_zero, List.set_cons_succ]
    refine wpAnyH_done (by kernel_rfl) ?_ _
    go_wp2_with fail
    first
      | exact bodyPost_ret (v := .tuple #[.agg #[.int .u64 (lo : Int), .slice A2 (n + 1) k2], .int .i64 0]) (by simp [results, Try.results21, asAddr, HLA.out]) rfl ⟨HQA.out, bzA⟩
      | exact bodyPost_ret (v := .tuple #[.agg #[.int .u64 (lo : Int), .slice A2' (n + 1) k2'], .int .i64 0]) (by simp [results, Try.results21, asAddr, HLB.out]) rfl ⟨HQB.out, bzB⟩
  · refine step_exec (by rfl) _ _ (exec_build1 (t := 22) (x := .tmp 19) (by rfl) (by rfl) (by first | exact ab | exact bb)) ?_
    refine hKreg.out _ _ ((by first | exact hx1 | exact hx2 | exact hx3 | exact hx4 | exact hx5 | exact hx6 | exact hx7 | exact hx8)) (fun hHeld => ?_)
    clear hKreg Kreg
    refine wpAnyH_put (d := 20) (by rfl) ?_
    simp only [List.set_cons_zero, List.set_cons_succ]
    refine wpAnyH_ready (rs := [4]) (by kernel_rfl) (by simp) (AllReadyH.cons rfl (fun Kreg hKreg => ?_) AllReadyH.nil)
    refine step_run_append (by rfl) (.const (.slice none 0 0)) (.tmp 17) 22 (by rfl) (by rfl) (by rfl) (by first | exact a1 | exact b1) ?_
    refine hKreg.out _ _ ((by first | exact hx1 | exact hx2 | exact hx3 | exact hx4 | exact hx5 | exact hx6 | exact hx7 | exact hx8)) (fun hHeld => ?_)
    clear hKreg Kreg
    refine wpAnyH_put (d := 18) (by rfl) ?_
    simp only [List.set_cons_zero, List.set_cons_succ]
    refine wpAnyH_ready (rs := [7]) (by kernel_rfl) (by simp) (AllReadyH.cons rfl (fun Kreg hKreg => ?_) AllReadyH.nil)
    refine step_run_append (by rfl) (.tmp 18) (.tmp 20) 22 (by rfl) (by rfl) (by rfl) (by first | exact a2 | exact b2) ?_
    refine hKreg.out _ _ ((by first | exact hx1 | exact hx2 | exact hx3 | exact hx4 | exact hx5 | exact hx6 | exact hx7 | exact hx8)) (fun hHeld => ?_)
    clear hKreg Kreg
    refine wpAnyH_put (d := 21) (by rfl) ?_
    simp only [List.set_cons_zero, List.set_cons_succ]
    refine take1 (i := 8) (d := 22) (v := ?_) rfl (by kernel_rfl) (by kernel_rfl) (by kernel_rfl) rfl (fun _ _ _ h => h) (Or.inl ⟨by rfl, ?_⟩) (by assumption) ?_
    rotate_left
    · (intro w hSw; (try dsimp only at hSw); go_simp); with_reducible rfl
    simp only [List.set_cons_zero, List.set_cons_succ]
    refine wpAnyH_ready (rs := [9]) (by kernel_rfl) (by simp) (AllReadyH.cons rfl (fun Kreg hKreg => ?_) AllReadyH.nil)
    refine step_store (by rfl) (.tmp 4) (.tmp 22) (by rfl) (by rfl) (by rfl) (by first | exact sa | exact sb) ?_
    refine hKreg.out _ _ ((by first | exact hx1 | exact hx2 | exact hx3 | exact hx4 | exact hx5 | exact hx6 | exact hx7 | exact hx8)) (fun hHeld => ?_)
    clear hKreg Kreg
    try simp only [Act.put, List.setIfInBounds_toArray, List.set_cons_zero, List.set_cons_succ]
    refine take1 (i := 10) (d := 5) (v := ?_) rfl (by kernel_rfl) (by kernel_rfl) (by kernel_rfl) rfl (fun _ _ _ h => h) (Or.inl ⟨by rfl, ?_⟩) (by assumption) ?_
    rotate_left
    · (intro w hSw; (try dsimp only at hSw); go_simp); with_reducible rfl
    simp only [List.set_cons_zero, List.set_cons_succ]
    refine wpAnyH_done (by kernel_rfl) ?_ _
    go_wp2_with fail
    first
      | exact bodyPost_ret (v := .tuple #[.agg #[.int .u64 (lo : Int), .slice A2 (n + 1) k2], .int .i64 0]) (by simp [results, Try.results21, asAddr, HLA.out]) rfl ⟨HQA.out, bzA⟩
      | exact bodyPost_ret (v := .tuple #[.agg #[.int .u64 (lo : Int), .slice A2' (n + 1) k2'], .int .i64 0]) (by simp [results, Try.results21, asAddr, HLB.out]) rfl ⟨HQB.out, bzB⟩

end Go.Proofs.Ytbamfnlgapchkaa.Chn
