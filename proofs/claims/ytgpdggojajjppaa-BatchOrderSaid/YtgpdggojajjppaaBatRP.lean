/- The reference of a queue of commands: Put, walked. Conditions: the lists can be read. -/
import Derived.Test.YtgpdggojajjppaaBatR
namespace Go.Proofs.Ytgpdggojajjppaa.Bat
open Go.RowKit Wire Cmd DrawInv

theorem exec_build1 {P : Program} {w w' : World} {ρ : Operand → Value} {o : Oper} {t : TypeId} {x : Operand} {vx v : Value} (ho : o.op = .buildSlice t 1 #[(0, x)]) (hx : ρ x = vx) (hr : (Instr.buildSlice t 1 #[(0, vx)]).run P w = .ok v w') : (execOp ρ o).run P w = .ok (.value v) w' := by
  unfold execOp
  simp only [ho, hx, List.map_toArray, List.map_cons, List.map_nil, Sem.run_bind, Sem.run_pure, Result.andThen_ok, hr]
theorem build_one (c : Cm) (w : World) : (Instr.buildSlice 30 1 #[(0, cmV c)]).run Try.prog w = .ok (.slice (some ⟨w.heap.size, 0, none⟩) 1 1) (w.alloc (.cells (cmC c) 36)) := by
  obtain ⟨ca, cb, ck, cs, ct, cu, cz⟩ := c
  unfold cmV cmC
  dsimp only
  go_simp
/-- append(append(nil, l...), c): whichever comes first, the clone or the command's own row. -/
theorem app_two {w : World} {l : List Cm} {A : Option Addr} {k : Nat} (hr : Rows w A 7 cmL l) (hl : l.length ≤ 100000) (c : Cm) :
    (∃ v1 w1 g wc v2 w2, (Builtin.append_ #[30, 30] 30 #[.slice none 0 0, .slice A l.length k]).run Try.prog w = .ok v1 w1 ∧
      (Instr.buildSlice 30 1 #[(0, cmV c)]).run Try.prog w1 = .ok (.slice (some ⟨g, 0, none⟩) 1 1) wc ∧
      (Builtin.append_ #[30, 30] 30 #[v1, .slice (some ⟨g, 0, none⟩) 1 1]).run Try.prog wc = .ok v2 w2 ∧
      w2.ownsRow w.heap.size 36 7 v2 (l ++ [c]).length ((l ++ [c]).flatMap cmL) ∧ Below w.heap.size w w2 ∧ Below w.heap.size w w1 ∧ Below w.heap.size w wc) ∧
    (∃ g wc v1 w1 v2 w2, (Instr.buildSlice 30 1 #[(0, cmV c)]).run Try.prog w = .ok (.slice (some ⟨g, 0, none⟩) 1 1) wc ∧
      (Builtin.append_ #[30, 30] 30 #[.slice none 0 0, .slice A l.length k]).run Try.prog wc = .ok v1 w1 ∧
      (Builtin.append_ #[30, 30] 30 #[v1, .slice (some ⟨g, 0, none⟩) 1 1]).run Try.prog w1 = .ok v2 w2 ∧
      w2.ownsRow w.heap.size 36 7 v2 (l ++ [c]).length ((l ++ [c]).flatMap cmL) ∧ Below w.heap.size w w2 ∧ Below w.heap.size w w1 ∧ Below w.heap.size w wc) := by
  constructor
  · obtain ⟨v1, w1, happ1, ho1, hg1, _⟩ := app_any (w := w) (base := w.heap.size) (l := []) (m := l) (Nat.le_refl _) (World.ownsRow_nil _ _ _ _) (c := k) hr (by simp; omega) 30
    rw [List.nil_append] at ho1
    have b1 : Below w.heap.size w w1 := (Below.refl _ w).grown hg1 (Nat.le_refl _) (fun k hk => by cases hk)
    have b2 := b1.alloc b1.size (.cells (cmC c) 36)
    have ho2 := own_below (h0 := w1.heap.size) ho1 ((Below.refl _ w1).alloc (Nat.le_refl _) (.cells (cmC c) 36)) (fun g hg => (ho1.lt g hg).2)
    have hn := cm_row (Blk.new w1 36 (cmC c))
    obtain ⟨v2, w2, happ2, ho3, hg2, _⟩ := app_any (base := w.heap.size) b2.size ho2 hn (c := 1) (by simp; omega) 30
    exact ⟨v1, w1, _, _, v2, w2, happ1, build_one c w1, happ2, ho3, b2.grown hg2 b2.size (fun k hk => (ho2.lt k hk).1), b1, b2⟩
  · have b0 : Below w.heap.size w (w.alloc (.cells (cmC c) 36)) := (Below.refl _ w).alloc (Nat.le_refl _) _
    have hn0 := Blk.new w 36 (cmC c)
    obtain ⟨v1, w1, happ1, ho1, hg1, _⟩ := app_any (w := w.alloc (.cells (cmC c) 36)) (base := w.heap.size) (l := []) (m := l) b0.size (World.ownsRow_nil _ _ _ _) (c := k) (hr.below b0) (by simp; omega) 30
    rw [List.nil_append] at ho1
    have b1 : Below w.heap.size w w1 := b0.grown hg1 b0.size (fun k hk => by cases hk)
    have hn := cm_row (hn0.grown hg1 (fun h => by cases h))
    obtain ⟨v2, w2, happ2, ho3, hg2, _⟩ := app_any (base := w.heap.size) b1.size ho1 hn (c := 1) (by simp; omega) 30
    exact ⟨_, _, v1, w1, v2, w2, build_one c w, happ1, happ2, ho3, b1.grown hg2 b1.size (fun k hk => (ho1.lt k hk).1), b1, b0⟩
set_option linter.unusedSimpArgs false in
set_option linter.unusedVariables false in
set_option maxRecDepth 100000 in
set_option maxHeartbeats 16000000 in
theorem refPut_any (l : List Cm) (hl : l.length ≤ 90000) (c : Cm) (hcf : c.Fits) (A : Option Addr) (k : Nat) (hk : l.length ≤ k) (w : World) (hA : Rows w A 7 cmL l) :
    Calls Try.prog 36 #[.slice A l.length k, cmV c] w fun e w' => ∃ u, e = .returned (.tuple #[u, .int .i64 ((putQ l c).2 : Int)]) ∧ RefL w A l u (putQ l c).1 w' ∧ Below w.heap.size w w' := by
  have HMY := Lib.hid (fun W => refMay_any c W)
  have hput : putQ l c = if mayB c = false then (l, 2) else match findN l c.client with
    | none => (l ++ [c], 0)
    | some i => match l[i]? with
      | none => (l, 0)
      | some d => if c.seq < d.seq then (l, 12) else if d.seq = c.seq then (l, 0) else (l.eraseIdx i ++ [c], 0) := rfl
  obtain ⟨res, hres⟩ : ∃ p, p = putQ l c := ⟨_, rfl⟩
  rw [← hres] at hput ⊢
  have HR := Lib.hid hput
  clear hput hres
  have kx := Blk.new w 36 (cmC c)
  have bw : Below w.heap.size w (w.alloc (.cells (cmC c) 36)) := (Below.refl _ w).alloc (Nat.le_refl _) _
  have HF := Lib.hid (fun (W : World) (k1 : Nat) (h : Rows W A 7 cmL l) => refFind_any l (by omega) A k k1 W h)
  generalize hmb : mayB c = mb at *
  have HAPP := Lib.hid (fun (W : World) (l' : List Cm) (A' : Option Addr) (k' : Nat) (h : Rows W A' 7 cmL l') (hl' : l'.length ≤ 100000) => app_two (k := k') h hl' c)
  clear hmb
  obtain ⟨ca, cb, ck, cs, ct, cu, cz⟩ := c
  unfold cmV cmC at *
  dsimp only at HR HMY HAPP kx bw ⊢
  obtain ⟨gx, hgx⟩ : ∃ gx, gx = w.heap.size := ⟨_, rfl⟩
  rw [← hgx] at kx
  go_enter Try.func36, Try.ntmps36
  go_upto_region 1 with fail
  rw [← hgx]
  generalize w.alloc (.cells #[.int .u8 (ca : Int), .int .u32 (cb : Int), .int .u8 (ck : Int), .string ⟨cs.toArray⟩, .string ⟨ct.toArray⟩, .string ⟨cu.toArray⟩, .int .u8 (cz : Int)] 36) = w1 at *
  have hgl : w.heap.size ≤ gx := by omega
  clear hgx
  have x0 := kx.cell 0
  have x1 := kx.cell 1
  have x2 := kx.cell 2
  have x3 := kx.cell 3
  have x4 := kx.cell 4
  have x5 := kx.cell 5
  have x6 := kx.cell 6
  go_wp2_with fail
  refine (HMY.out w1).mono ?_; rintro e w2 ⟨rfl, B2⟩
  have kx := kx.below B2 kx.lt
  have bw := bw.trans (B2.mono bw.size)
  clear B2 x0 x1 x2 x3 x4 x5 x6 HMY
  cases mb
  · have hres := HR.out
    simp only [if_true] at hres
    subst hres
    have HQ : Hid (RefL w A l (.slice A l.length k) l w2) := ⟨A, k, rfl, hk, hA.below bw, .inl ⟨rfl, rfl⟩⟩
    clear HR HF HAPP kx hA
    go_wp2_with fail
    exact bodyPost_ret (v := .tuple #[.slice A l.length k, .int .i64 2]) (by simp [results, Try.results36]) rfl ⟨_, rfl, HQ.out, bw⟩
  have x0 := kx.cell 0
  have hA2 := hA.below bw
  clear hA
  go_wp2_with fail
  refine (HF.out w2 ca hA2).mono ?_; rintro e w3 ⟨rfl, B3⟩
  have kx := kx.below B3 kx.lt
  have bw := bw.trans (B3.mono bw.size)
  have hA3 := hA2.below B3
  clear B3 x0 HF hA2
  have hres := HR.out
  simp only [Bool.true_eq_false, if_false] at hres
  cases hfn : findN l ca with
  | none =>
    rw [hfn] at hres
    simp only at hres
    subst hres
    rw [findI_none hfn]
    clear hfn HR
    go_upto_region 4 with fail
    have BW := Lib.hid bw.drew
    have kxd := kx.drew
    have hAd : Rows w3.drew A 7 cmL l := hA3
    clear bw kx hA3
    refine region_inv2 (by kernel_rfl) [] [(15, .int .i64 (-1)), (16, .bool false), (17, .bool false), (18, undef), (19, undef), (20, undef), (21, undef), (22, undef), (23, undef), (24, undef), (25, undef), (26, .bool false)] (by kernel_rfl) (by kernel_rfl) rfl (by kernel_rfl) ?_ ?_ ?_
    · intro q hq; cases hq
    · refine And.intro ?_ ?_
      · intro d hd ρ W hcs bw hn hg
        cases hd
        have e6 : ρ (.tmp 6) = .int .i64 (-1) := hn 6 (by decide)
        clear hn hg
        refine .inl ⟨trivial, ?_⟩
        refine .inl ⟨_, W, rfl, e6, Below.refl _ _⟩
      refine And.intro ?_ ?_
      · intro d hd ρ W hcs bw hn hg
        cases hd
        have e15 : ρ (.tmp 15) = .int .i64 (-1) := hn 15 (by decide)
        clear hn hg
        refine .inl ⟨trivial, ?_⟩
        have hc1 := hcs.1
        refine .inl ⟨.bool false, W, ?_, rfl, Below.refl _ _⟩
        go_simp
      refine And.intro ?_ ?_
      · intro d hd ρ W hcs bw hn hg
        cases hd
        have e16 : ρ (.tmp 16) = .bool false := hn 16 (by decide)
        clear hn hg
        refine .inl ⟨trivial, ?_⟩
        refine .inl ⟨_, W, rfl, e16, Below.refl _ _⟩
      refine And.intro ?_ ?_
      · intro d hd ρ W hcs bw hn hg
        cases hd
        have eg : ρ (.tmp 17) = .bool false := hg _ _ _ _ rfl rfl rfl
        exact .inr ⟨⟨_, _, _, rfl, rfl, eg, nofun⟩, rfl⟩
      refine And.intro ?_ ?_
      · intro d hd ρ W hcs bw hn hg
        cases hd
        have eg : ρ (.tmp 17) = .bool false := hg _ _ _ _ rfl rfl rfl
        exact .inr ⟨⟨_, _, _, rfl, rfl, eg, nofun⟩, rfl⟩
      refine And.intro ?_ ?_
      · intro d hd ρ W hcs bw hn hg
        cases hd
        have eg : ρ (.tmp 17) = .bool false := hg _ _ _ _ rfl rfl rfl
        exact .inr ⟨⟨_, _, _, rfl, rfl, eg, nofun⟩, rfl⟩
      refine And.intro ?_ ?_
      · intro d hd ρ W hcs bw hn hg
        cases hd
        have eg : ρ (.tmp 17) = .bool false := hg _ _ _ _ rfl rfl rfl
        exact .inr ⟨⟨_, _, _, rfl, rfl, eg, nofun⟩, rfl⟩
      refine And.intro ?_ ?_
      · intro d hd ρ W hcs bw hn hg
        cases hd
        have eg : ρ (.tmp 17) = .bool false := hg _ _ _ _ rfl rfl rfl
        exact .inr ⟨⟨_, _, _, rfl, rfl, eg, nofun⟩, rfl⟩
      refine And.intro ?_ ?_
      · intro d hd ρ W hcs bw hn hg
        cases hd
        have eg : ρ (.tmp 17) = .bool false := hg _ _ _ _ rfl rfl rfl
        exact .inr ⟨⟨_, _, _, rfl, rfl, eg, nofun⟩, rfl⟩
      refine And.intro ?_ ?_
      · intro d hd ρ W hcs bw hn hg
        cases hd
        have eg : ρ (.tmp 17) = .bool false := hg _ _ _ _ rfl rfl rfl
        exact .inr ⟨⟨_, _, _, rfl, rfl, eg, nofun⟩, rfl⟩
      refine And.intro ?_ ?_
      · intro d hd ρ W hcs bw hn hg
        cases hd
        have eg : ρ (.tmp 17) = .bool false := hg _ _ _ _ rfl rfl rfl
        exact .inr ⟨⟨_, _, _, rfl, rfl, eg, nofun⟩, rfl⟩
      refine And.intro ?_ ?_
      · intro d hd ρ W hcs bw hn hg
        cases hd
        have e17 : ρ (.tmp 17) = .bool false := hn 17 (by decide)
        have e25 : ρ (.tmp 25) = undef := hn 25 (by decide)
        clear hn hg
        refine .inl ⟨trivial, ?_⟩
        have hc1 := hcs.1
        refine .inl ⟨.bool false, W, ?_, rfl, Below.refl _ _⟩
        go_simp
      trivial
    · intro a' w' hsz hdf hb hVs
      have q26 : a'.eval (.tmp 26) = .bool false := hVs 26
      have ha := slot_over_seg 15 12 [] rfl (by kernel_rfl) (of_decide_eq_true (by kernel_rfl)) hsz hdf hVs
      clear hVs hsz hdf
      rw [show List.range' 15 12 = [15, 16, 17, 18, 19, 20, 21, 22, 23, 24, 25, 26] from rfl] at ha
      simp only [List.take_succ_cons, List.take_zero, List.drop_succ_cons, List.drop_zero, List.map_cons, List.map_nil, List.cons_append, List.nil_append, List.foldl_cons, List.foldl_nil, List.set_cons_zero, List.set_cons_succ, q26] at ha
      clear q26
      generalize a'.eval (.tmp 15) = x15 at ha
      generalize a'.eval (.tmp 16) = x16 at ha
      generalize a'.eval (.tmp 17) = x17 at ha
      generalize a'.eval (.tmp 18) = x18 at ha
      generalize a'.eval (.tmp 19) = x19 at ha
      generalize a'.eval (.tmp 20) = x20 at ha
      generalize a'.eval (.tmp 21) = x21 at ha
      generalize a'.eval (.tmp 22) = x22 at ha
      generalize a'.eval (.tmp 23) = x23 at ha
      generalize a'.eval (.tmp 24) = x24 at ha
      generalize a'.eval (.tmp 25) = x25 at ha
      subst ha
      have bw := BW.out.trans (hb.mono BW.out.size)
      have kx := kxd.below hb kxd.lt
      have hA4 := hAd.below hb
      clear BW kxd hAd hb
      obtain ⟨w4, hw4⟩ : ∃ w4 : World, w4 = w' := ⟨_, rfl⟩
      rw [← hw4] at bw kx hA4 ⊢
      clear hw4
      go_upto_region 6 with fail
      have BW := Lib.hid bw.drew
      have kxd := kx.drew
      have hAd : Rows w4.drew A 7 cmL l := hA4
      clear bw kx hA4
      refine region_inv2 (by kernel_rfl) [] [(28, .int .i64 (-1)), (29, .bool false), (30, .bool false), (31, undef), (32, undef), (33, undef), (34, undef), (35, undef), (36, undef), (37, undef), (38, undef), (39, .bool false)] (by kernel_rfl) (by kernel_rfl) rfl (by kernel_rfl) ?_ ?_ ?_
      · intro q hq; cases hq
      · refine And.intro ?_ ?_
        · intro d hd ρ W hcs bw hn hg
          cases hd
          have e6 : ρ (.tmp 6) = .int .i64 (-1) := hn 6 (by decide)
          clear hn hg
          refine .inl ⟨trivial, ?_⟩
          refine .inl ⟨_, W, rfl, e6, Below.refl _ _⟩
        refine And.intro ?_ ?_
        · intro d hd ρ W hcs bw hn hg
          cases hd
          have e28 : ρ (.tmp 28) = .int .i64 (-1) := hn 28 (by decide)
          clear hn hg
          refine .inl ⟨trivial, ?_⟩
          have hc1 := hcs.1
          refine .inl ⟨.bool false, W, ?_, rfl, Below.refl _ _⟩
          go_simp
        refine And.intro ?_ ?_
        · intro d hd ρ W hcs bw hn hg
          cases hd
          have e29 : ρ (.tmp 29) = .bool false := hn 29 (by decide)
          clear hn hg
          refine .inl ⟨trivial, ?_⟩
          refine .inl ⟨_, W, rfl, e29, Below.refl _ _⟩
        refine And.intro ?_ ?_
        · intro d hd ρ W hcs bw hn hg
          cases hd
          have eg : ρ (.tmp 30) = .bool false := hg _ _ _ _ rfl rfl rfl
          exact .inr ⟨⟨_, _, _, rfl, rfl, eg, nofun⟩, rfl⟩
        refine And.intro ?_ ?_
        · intro d hd ρ W hcs bw hn hg
          cases hd
          have eg : ρ (.tmp 30) = .bool false := hg _ _ _ _ rfl rfl rfl
          exact .inr ⟨⟨_, _, _, rfl, rfl, eg, nofun⟩, rfl⟩
        refine And.intro ?_ ?_
        · intro d hd ρ W hcs bw hn hg
          cases hd
          have eg : ρ (.tmp 30) = .bool false := hg _ _ _ _ rfl rfl rfl
          exact .inr ⟨⟨_, _, _, rfl, rfl, eg, nofun⟩, rfl⟩
        refine And.intro ?_ ?_
        · intro d hd ρ W hcs bw hn hg
          cases hd
          have eg : ρ (.tmp 30) = .bool false := hg _ _ _ _ rfl rfl rfl
          exact .inr ⟨⟨_, _, _, rfl, rfl, eg, nofun⟩, rfl⟩
        refine And.intro ?_ ?_
        · intro d hd ρ W hcs bw hn hg
          cases hd
          have eg : ρ (.tmp 30) = .bool false := hg _ _ _ _ rfl rfl rfl
          exact .inr ⟨⟨_, _, _, rfl, rfl, eg, nofun⟩, rfl⟩
        refine And.intro ?_ ?_
        · intro d hd ρ W hcs bw hn hg
          cases hd
          have eg : ρ (.tmp 30) = .bool false := hg _ _ _ _ rfl rfl rfl
          exact .inr ⟨⟨_, _, _, rfl, rfl, eg, nofun⟩, rfl⟩
        refine And.intro ?_ ?_
        · intro d hd ρ W hcs bw hn hg
          cases hd
          have eg : ρ (.tmp 30) = .bool false := hg _ _ _ _ rfl rfl rfl
          exact .inr ⟨⟨_, _, _, rfl, rfl, eg, nofun⟩, rfl⟩
        refine And.intro ?_ ?_
        · intro d hd ρ W hcs bw hn hg
          cases hd
          have eg : ρ (.tmp 30) = .bool false := hg _ _ _ _ rfl rfl rfl
          exact .inr ⟨⟨_, _, _, rfl, rfl, eg, nofun⟩, rfl⟩
        refine And.intro ?_ ?_
        · intro d hd ρ W hcs bw hn hg
          cases hd
          have e30 : ρ (.tmp 30) = .bool false := hn 30 (by decide)
          have e38 : ρ (.tmp 38) = undef := hn 38 (by decide)
          clear hn hg
          refine .inl ⟨trivial, ?_⟩
          have hc1 := hcs.1
          refine .inl ⟨.bool false, W, ?_, rfl, Below.refl _ _⟩
          go_simp
        trivial
      · intro a' w' hsz hdf hb hVs
        have q39 : a'.eval (.tmp 39) = .bool false := hVs 39
        have ha := slot_over_seg 28 12 [] rfl (by kernel_rfl) (of_decide_eq_true (by kernel_rfl)) hsz hdf hVs
        clear hVs hsz hdf
        rw [show List.range' 28 12 = [28, 29, 30, 31, 32, 33, 34, 35, 36, 37, 38, 39] from rfl] at ha
        simp only [List.take_succ_cons, List.take_zero, List.drop_succ_cons, List.drop_zero, List.map_cons, List.map_nil, List.cons_append, List.nil_append, List.foldl_cons, List.foldl_nil, List.set_cons_zero, List.set_cons_succ, q39] at ha
        clear q39
        generalize a'.eval (.tmp 28) = x28 at ha
        generalize a'.eval (.tmp 29) = x29 at ha
        generalize a'.eval (.tmp 30) = x30 at ha
        generalize a'.eval (.tmp 31) = x31 at ha
        generalize a'.eval (.tmp 32) = x32 at ha
        generalize a'.eval (.tmp 33) = x33 at ha
        generalize a'.eval (.tmp 34) = x34 at ha
        generalize a'.eval (.tmp 35) = x35 at ha
        generalize a'.eval (.tmp 36) = x36 at ha
        generalize a'.eval (.tmp 37) = x37 at ha
        generalize a'.eval (.tmp 38) = x38 at ha
        subst ha
        have bw := BW.out.trans (hb.mono BW.out.size)
        have kx := kxd.below hb kxd.lt
        have hA5 := hAd.below hb
        clear BW kxd hAd hb
        obtain ⟨w5, hw5⟩ : ∃ w5 : World, w5 = w' := ⟨_, rfl⟩
        rw [← hw5] at bw kx hA5 ⊢
        clear hw5
        go_upto_region 10 with fail
        obtain ⟨⟨v1, wA, gA, wAc, v2, wB, a1, ab, a2, a3, a4, a5, a6⟩, ⟨gB, wBc, v1', wA', v2', wB', bb, b1, b2, b3, b4, b5, b6⟩⟩ := HAPP.out w5.drew l A k hA5 (by omega)
        have HQA : Hid (RefL w A l v2 (l ++ [⟨ca, cb, ck, cs, ct, cu, cz⟩]) wB) := refL_below (refL_own a3) bw.drew
        have HQB : Hid (RefL w A l v2' (l ++ [⟨ca, cb, ck, cs, ct, cu, cz⟩]) wB') := refL_below (refL_own b3) bw.drew
        have bzA := bw.drew.trans (a4.mono bw.drew.size)
        have bzB := bw.drew.trans (b4.mono bw.drew.size)
        have k1 := kx.drew
        have k2 := k1.below a6 k1.lt
        have k3 := k1.below a5 k1.lt
        have k4 := k1.below b5 k1.lt
        have k5 := k1.below a4 k1.lt
        have k6 := k1.below b4 k1.lt
        have k7 := k1.below b6 k1.lt
        clear a3 a4 a5 a6 b3 b4 b5 b6 bw kx hA5 HAPP
        refine wp_region_held_drew (S := (fun W : World => Blk W gx 36 #[.int .u8 (ca : Int), .int .u32 (cb : Int), .int .u8 (ck : Int), .string ⟨cs.toArray⟩, .string ⟨ct.toArray⟩, .string ⟨cu.toArray⟩, .int .u8 (cz : Int)])) (by kernel_rfl) (k1) (fun hHeld => ?_)
        refine take1 (i := 0) (d := 46) (v := ?_) rfl (by kernel_rfl) (by kernel_rfl) (by kernel_rfl) rfl (fun _ _ _ h => h) (Or.inl ⟨by rfl, ?_⟩) (by assumption) ?_
        rotate_left
        · (intro w hSw; (try dsimp only at hSw); go_simp); with_reducible rfl
        simp only [List.set_cons_zero, List.set_cons_succ]
        refine take1 (i := 2) (d := 48) (v := ?_) rfl (by kernel_rfl) (by kernel_rfl) (by kernel_rfl) rfl (fun _ _ _ h => h) (Or.inl ⟨by rfl, ?_⟩) (by assumption) ?_
        rotate_left
        · intro w hSw; refine (exec_load (.tmp 3) (by rfl) (by rfl) (blk_load (P := Try.prog) (ty := 36) hSw Try.underlying36 rfl size_cm)).trans ?_; with_reducible rfl
        simp only [List.set_cons_zero, List.set_cons_succ]
        refine wpAnyH_ready (rs := [1, 3]) (by kernel_rfl) (by simp) (AllReadyH.cons rfl (fun Kreg hKreg => ?_) (AllReadyH.cons rfl (fun Kreg hKreg => ?_) AllReadyH.nil))
        · refine step_run_append (by rfl) (.const (.slice none 0 0)) (.tmp 46) 30 (by rfl) (by rfl) (by rfl) (by first | exact a1 | exact b1) ?_
          refine hKreg.out _ _ ((by first | exact k1 | exact k2 | exact k3 | exact k4 | exact k5 | exact k6 | exact k7)) (fun hHeld => ?_)
          clear hKreg Kreg
          refine wpAnyH_put (d := 47) (by rfl) ?_
          simp only [List.set_cons_zero, List.set_cons_succ]
          refine wpAnyH_ready (rs := [3]) (by kernel_rfl) (by simp) (AllReadyH.cons rfl (fun Kreg hKreg => ?_) AllReadyH.nil)
          refine step_exec (by rfl) _ _ (exec_build1 (t := 30) (x := .tmp 48) (by rfl) (by rfl) (by first | exact ab | exact bb)) ?_
          refine hKreg.out _ _ ((by first | exact k1 | exact k2 | exact k3 | exact k4 | exact k5 | exact k6 | exact k7)) (fun hHeld => ?_)
          clear hKreg Kreg
          refine wpAnyH_put (d := 49) (by rfl) ?_
          simp only [List.set_cons_zero, List.set_cons_succ]
          refine wpAnyH_ready (rs := [4]) (by kernel_rfl) (by simp) (AllReadyH.cons rfl (fun Kreg hKreg => ?_) AllReadyH.nil)
          refine step_run_append (by rfl) (.tmp 47) (.tmp 49) 30 (by rfl) (by rfl) (by rfl) (by first | exact a2 | exact b2) ?_
          refine hKreg.out _ _ ((by first | exact k1 | exact k2 | exact k3 | exact k4 | exact k5 | exact k6 | exact k7)) (fun hHeld => ?_)
          clear hKreg Kreg
          refine wpAnyH_put (d := 50) (by rfl) ?_
          simp only [List.set_cons_zero, List.set_cons_succ]
          refine take1 (i := 5) (d := 4) (v := ?_) rfl (by kernel_rfl) (by kernel_rfl) (by kernel_rfl) rfl (fun _ _ _ h => h) (Or.inl ⟨by rfl, ?_⟩) (by assumption) ?_
          rotate_left
          · (intro w hSw; (try dsimp only at hSw); go_simp); with_reducible rfl
          simp only [List.set_cons_zero, List.set_cons_succ]
          refine take1 (i := 6) (d := 5) (v := ?_) rfl (by kernel_rfl) (by kernel_rfl) (by kernel_rfl) rfl (fun _ _ _ h => h) (Or.inl ⟨by rfl, ?_⟩) (by assumption) ?_
          rotate_left
          · (intro w hSw; (try dsimp only at hSw); go_simp); with_reducible rfl
          simp only [List.set_cons_zero, List.set_cons_succ]
          refine wpAnyH_done (by kernel_rfl) ?_ _
          go_wp2_with fail
          first
            | exact bodyPost_ret (v := .tuple #[v2, .int .i64 0]) (by simp [results, Try.results36]) rfl ⟨_, rfl, HQA.out, bzA⟩
            | exact bodyPost_ret (v := .tuple #[v2', .int .i64 0]) (by simp [results, Try.results36]) rfl ⟨_, rfl, HQB.out, bzB⟩
        · refine step_exec (by rfl) _ _ (exec_build1 (t := 30) (x := .tmp 48) (by rfl) (by rfl) (by first | exact ab | exact bb)) ?_
          refine hKreg.out _ _ ((by first | exact k1 | exact k2 | exact k3 | exact k4 | exact k5 | exact k6 | exact k7)) (fun hHeld => ?_)
          clear hKreg Kreg
          refine wpAnyH_put (d := 49) (by rfl) ?_
          simp only [List.set_cons_zero, List.set_cons_succ]
          refine wpAnyH_ready (rs := [1]) (by kernel_rfl) (by simp) (AllReadyH.cons rfl (fun Kreg hKreg => ?_) AllReadyH.nil)
          refine step_run_append (by rfl) (.const (.slice none 0 0)) (.tmp 46) 30 (by rfl) (by rfl) (by rfl) (by first | exact a1 | exact b1) ?_
          refine hKreg.out _ _ ((by first | exact k1 | exact k2 | exact k3 | exact k4 | exact k5 | exact k6 | exact k7)) (fun hHeld => ?_)
          clear hKreg Kreg
          refine wpAnyH_put (d := 47) (by rfl) ?_
          simp only [List.set_cons_zero, List.set_cons_succ]
          refine wpAnyH_ready (rs := [4]) (by kernel_rfl) (by simp) (AllReadyH.cons rfl (fun Kreg hKreg => ?_) AllReadyH.nil)
          refine step_run_append (by rfl) (.tmp 47) (.tmp 49) 30 (by rfl) (by rfl) (by rfl) (by first | exact a2 | exact b2) ?_
          refine hKreg.out _ _ ((by first | exact k1 | exact k2 | exact k3 | exact k4 | exact k5 | exact k6 | exact k7)) (fun hHeld => ?_)
          clear hKreg Kreg
          refine wpAnyH_put (d := 50) (by rfl) ?_
          simp only [List.set_cons_zero, List.set_cons_succ]
          refine take1 (i := 5) (d := 4) (v := ?_) rfl (by kernel_rfl) (by kernel_rfl) (by kernel_rfl) rfl (fun _ _ _ h => h) (Or.inl ⟨by rfl, ?_⟩) (by assumption) ?_
          rotate_left
          · (intro w hSw; (try dsimp only at hSw); go_simp); with_reducible rfl
          simp only [List.set_cons_zero, List.set_cons_succ]
          refine take1 (i := 6) (d := 5) (v := ?_) rfl (by kernel_rfl) (by kernel_rfl) (by kernel_rfl) rfl (fun _ _ _ h => h) (Or.inl ⟨by rfl, ?_⟩) (by assumption) ?_
          rotate_left
          · (intro w hSw; (try dsimp only at hSw); go_simp); with_reducible rfl
          simp only [List.set_cons_zero, List.set_cons_succ]
          refine wpAnyH_done (by kernel_rfl) ?_ _
          go_wp2_with fail
          first
            | exact bodyPost_ret (v := .tuple #[v2, .int .i64 0]) (by simp [results, Try.results36]) rfl ⟨_, rfl, HQA.out, bzA⟩
            | exact bodyPost_ret (v := .tuple #[v2', .int .i64 0]) (by simp [results, Try.results36]) rfl ⟨_, rfl, HQB.out, bzB⟩

  | some i =>
    rw [hfn] at hres
    simp only at hres
    rw [findI_some hfn]
    have hil := find_lt hfn
    obtain ⟨x, hx, _⟩ := find_at hfn
    rw [hx] at hres
    simp only at hres
    have HW := Lib.hid (fun W h => without_any l i l.length rfl hil (by omega) A k hk W h)
    have hel : (l.eraseIdx i).length ≤ l.length := by rw [List.length_eraseIdx, if_pos hil]; omega
    obtain ⟨ad, rfl, hadl, _, z1⟩ := hA3.at_ hx
    have c1d : w3.drew.cell? { block := (ad.add (i * 7)).block, off := (ad.add (i * 7)).off + 1 } = some (.int .u32 (x.seq : Int)) := z1 0 _ rfl
    have b0 : (ad.add (i * 7)).block < w3.drew.heap.size := by rw [block_of_add]; exact hadl
    have hni : (i : Int) < (l.length : Int) := by omega
    have HRES := Lib.hid hres
    have HIL := Lib.hid hil
    have HEL := Lib.hid hel
    clear hres hfn z1 HR hx hil hadl hel
    generalize x.seq = xq at *
    go_upto_region 4 with fail
    have BW := Lib.hid bw.drew
    have kxd := kx.drew
    have hAd : Rows w3.drew (some ad) 7 cmL l := hA3
    clear bw kx hA3
    by_cases q1 : cb < xq
    · have hres := HRES.out
      rw [if_pos q1] at hres
      subst hres
      have hq1 : (cb : Int) < (xq : Int) := by omega
      refine region_inv2 (by kernel_rfl) [] [(15, .int .i64 (i : Int)), (16, .bool true), (17, .bool true), (18, .slice (some ad) l.length k), (19, .int .i64 (i : Int)), (20, .pointer (some (ad.add (i * 7)))), (21, .pointer (some { block := (ad.add (i * 7)).block, off := (ad.add (i * 7)).off + 1 })), (22, .int .u32 (xq : Int)), (23, .pointer (some ⟨gx, 1, none⟩)), (24, .int .u32 (cb : Int)), (25, .bool true), (26, .bool true)] (by kernel_rfl) (by kernel_rfl) rfl (by kernel_rfl) ?_ ?_ ?_
      · intro q hq; cases hq
      · refine And.intro ?_ ?_
        · intro d hd ρ W hcs bw hn hg
          cases hd
          have e6 : ρ (.tmp 6) = .int .i64 (i : Int) := hn 6 (by decide)
          clear hn hg
          refine .inl ⟨trivial, ?_⟩
          refine .inl ⟨_, W, rfl, e6, Below.refl _ _⟩
        refine And.intro ?_ ?_
        · intro d hd ρ W hcs bw hn hg
          cases hd
          have e15 : ρ (.tmp 15) = .int .i64 (i : Int) := hn 15 (by decide)
          clear hn hg
          refine .inl ⟨trivial, ?_⟩
          have hc1 := hcs.1
          refine .inl ⟨.bool true, W, ?_, rfl, Below.refl _ _⟩
          go_simp
        refine And.intro ?_ ?_
        · intro d hd ρ W hcs bw hn hg
          cases hd
          have e16 : ρ (.tmp 16) = .bool true := hn 16 (by decide)
          clear hn hg
          refine .inl ⟨trivial, ?_⟩
          refine .inl ⟨_, W, rfl, e16, Below.refl _ _⟩
        refine And.intro ?_ ?_
        · intro d hd ρ W hcs bw hn hg
          cases hd
          have eg : ρ (.tmp 17) = .bool true := hg _ _ _ _ rfl rfl rfl
          have e0 : ρ (.tmp 0) = .slice (some ad) l.length k := hn 0 (by decide)
          clear hn hg
          refine .inl ⟨⟨_, _, rfl, rfl, eg⟩, ?_⟩
          refine .inl ⟨_, W, rfl, e0, Below.refl _ _⟩
        refine And.intro ?_ ?_
        · intro d hd ρ W hcs bw hn hg
          cases hd
          have eg : ρ (.tmp 17) = .bool true := hg _ _ _ _ rfl rfl rfl
          have e6 : ρ (.tmp 6) = .int .i64 (i : Int) := hn 6 (by decide)
          clear hn hg
          refine .inl ⟨⟨_, _, rfl, rfl, eg⟩, ?_⟩
          refine .inl ⟨_, W, rfl, e6, Below.refl _ _⟩
        refine And.intro ?_ ?_
        · intro d hd ρ W hcs bw hn hg
          cases hd
          have eg : ρ (.tmp 17) = .bool true := hg _ _ _ _ rfl rfl rfl
          have e18 : ρ (.tmp 18) = .slice (some ad) l.length k := hn 18 (by decide)
          have e19 : ρ (.tmp 19) = .int .i64 (i : Int) := hn 19 (by decide)
          clear hn hg
          refine .inl ⟨⟨_, _, rfl, rfl, eg⟩, ?_⟩
          refine .inl ⟨.pointer (some (ad.add (i * 7))), W, ?_, rfl, Below.refl _ _⟩
          go_simp
        refine And.intro ?_ ?_
        · intro d hd ρ W hcs bw hn hg
          cases hd
          have eg : ρ (.tmp 17) = .bool true := hg _ _ _ _ rfl rfl rfl
          have e20 : ρ (.tmp 20) = .pointer (some (ad.add (i * 7))) := hn 20 (by decide)
          clear hn hg
          refine .inl ⟨⟨_, _, rfl, rfl, eg⟩, ?_⟩
          refine .inl ⟨.pointer (some { block := (ad.add (i * 7)).block, off := (ad.add (i * 7)).off + 1 }), W, ?_, rfl, Below.refl _ _⟩
          go_simp
        refine And.intro ?_ ?_
        · intro d hd ρ W hcs bw hn hg
          cases hd
          have eg : ρ (.tmp 17) = .bool true := hg _ _ _ _ rfl rfl rfl
          have e21 : ρ (.tmp 21) = .pointer (some { block := (ad.add (i * 7)).block, off := (ad.add (i * 7)).off + 1 }) := hn 21 (by decide)
          clear hn hg
          refine .inl ⟨⟨_, _, rfl, rfl, eg⟩, ?_⟩
          have z0 : W.cell? { block := (ad.add (i * 7)).block, off := (ad.add (i * 7)).off + 1 } = some (.int .u32 (xq : Int)) := (bw.cell (by exact b0)).trans c1d
          refine .inl ⟨.int .u32 (xq : Int), W, ?_, rfl, Below.refl _ _⟩
          go_simp
        refine And.intro ?_ ?_
        · intro d hd ρ W hcs bw hn hg
          cases hd
          have eg : ρ (.tmp 17) = .bool true := hg _ _ _ _ rfl rfl rfl
          have e3 : ρ (.tmp 3) = .pointer (some ⟨gx, 0, none⟩) := hn 3 (by decide)
          clear hn hg
          refine .inl ⟨⟨_, _, rfl, rfl, eg⟩, ?_⟩
          refine .inl ⟨.pointer (some ⟨gx, 1, none⟩), W, ?_, rfl, Below.refl _ _⟩
          go_simp
        refine And.intro ?_ ?_
        · intro d hd ρ W hcs bw hn hg
          cases hd
          have eg : ρ (.tmp 17) = .bool true := hg _ _ _ _ rfl rfl rfl
          have e23 : ρ (.tmp 23) = .pointer (some ⟨gx, 1, none⟩) := hn 23 (by decide)
          clear hn hg
          refine .inl ⟨⟨_, _, rfl, rfl, eg⟩, ?_⟩
          have z0 : W.cell? ⟨gx, 1, none⟩ = some (.int .u32 (cb : Int)) := (Blk.below kxd bw (Blk.lt kxd)).cell 1
          refine .inl ⟨.int .u32 (cb : Int), W, ?_, rfl, Below.refl _ _⟩
          go_simp
        refine And.intro ?_ ?_
        · intro d hd ρ W hcs bw hn hg
          cases hd
          have eg : ρ (.tmp 17) = .bool true := hg _ _ _ _ rfl rfl rfl
          have e22 : ρ (.tmp 22) = .int .u32 (xq : Int) := hn 22 (by decide)
          have e24 : ρ (.tmp 24) = .int .u32 (cb : Int) := hn 24 (by decide)
          clear hn hg
          refine .inl ⟨⟨_, _, rfl, rfl, eg⟩, ?_⟩
          refine .inl ⟨.bool true, W, ?_, rfl, Below.refl _ _⟩
          go_simp
        refine And.intro ?_ ?_
        · intro d hd ρ W hcs bw hn hg
          cases hd
          have e17 : ρ (.tmp 17) = .bool true := hn 17 (by decide)
          have e25 : ρ (.tmp 25) = .bool true := hn 25 (by decide)
          clear hn hg
          refine .inl ⟨trivial, ?_⟩
          have hc1 := hcs.1
          refine .inl ⟨.bool true, W, ?_, rfl, Below.refl _ _⟩
          go_simp
        trivial
      · intro a' w' hsz hdf hb hVs
        have q26 : a'.eval (.tmp 26) = .bool true := hVs 26
        have ha := slot_over_seg 15 12 [] rfl (by kernel_rfl) (of_decide_eq_true (by kernel_rfl)) hsz hdf hVs
        clear hVs hsz hdf
        rw [show List.range' 15 12 = [15, 16, 17, 18, 19, 20, 21, 22, 23, 24, 25, 26] from rfl] at ha
        simp only [List.take_succ_cons, List.take_zero, List.drop_succ_cons, List.drop_zero, List.map_cons, List.map_nil, List.cons_append, List.nil_append, List.foldl_cons, List.foldl_nil, List.set_cons_zero, List.set_cons_succ, q26] at ha
        clear q26
        generalize a'.eval (.tmp 15) = x15 at ha
        generalize a'.eval (.tmp 16) = x16 at ha
        generalize a'.eval (.tmp 17) = x17 at ha
        generalize a'.eval (.tmp 18) = x18 at ha
        generalize a'.eval (.tmp 19) = x19 at ha
        generalize a'.eval (.tmp 20) = x20 at ha
        generalize a'.eval (.tmp 21) = x21 at ha
        generalize a'.eval (.tmp 22) = x22 at ha
        generalize a'.eval (.tmp 23) = x23 at ha
        generalize a'.eval (.tmp 24) = x24 at ha
        generalize a'.eval (.tmp 25) = x25 at ha
        subst ha
        have bw := BW.out.trans (hb.mono BW.out.size)
        have HQ : Hid (RefL w (some ad) l (.slice (some ad) l.length k) l w') := ⟨some ad, k, rfl, hk, hAd.below hb, .inl ⟨rfl, rfl⟩⟩
        clear HW HAPP kxd hAd hb BW c1d
        go_wp2_with fail
        exact bodyPost_ret (v := .tuple #[.slice (some ad) l.length k, .int .i64 12]) (by simp [results, Try.results36]) rfl ⟨_, rfl, HQ.out, bw⟩
    have hq1 : ¬ (cb : Int) < (xq : Int) := by omega
    refine region_inv2 (by kernel_rfl) [] [(15, .int .i64 (i : Int)), (16, .bool true), (17, .bool true), (18, .slice (some ad) l.length k), (19, .int .i64 (i : Int)), (20, .pointer (some (ad.add (i * 7)))), (21, .pointer (some { block := (ad.add (i * 7)).block, off := (ad.add (i * 7)).off + 1 })), (22, .int .u32 (xq : Int)), (23, .pointer (some ⟨gx, 1, none⟩)), (24, .int .u32 (cb : Int)), (25, .bool false), (26, .bool false)] (by kernel_rfl) (by kernel_rfl) rfl (by kernel_rfl) ?_ ?_ ?_
    · intro q hq; cases hq
    · refine And.intro ?_ ?_
      · intro d hd ρ W hcs bw hn hg
        cases hd
        have e6 : ρ (.tmp 6) = .int .i64 (i : Int) := hn 6 (by decide)
        clear hn hg
        refine .inl ⟨trivial, ?_⟩
        refine .inl ⟨_, W, rfl, e6, Below.refl _ _⟩
      refine And.intro ?_ ?_
      · intro d hd ρ W hcs bw hn hg
        cases hd
        have e15 : ρ (.tmp 15) = .int .i64 (i : Int) := hn 15 (by decide)
        clear hn hg
        refine .inl ⟨trivial, ?_⟩
        have hc1 := hcs.1
        refine .inl ⟨.bool true, W, ?_, rfl, Below.refl _ _⟩
        go_simp
      refine And.intro ?_ ?_
      · intro d hd ρ W hcs bw hn hg
        cases hd
        have e16 : ρ (.tmp 16) = .bool true := hn 16 (by decide)
        clear hn hg
        refine .inl ⟨trivial, ?_⟩
        refine .inl ⟨_, W, rfl, e16, Below.refl _ _⟩
      refine And.intro ?_ ?_
      · intro d hd ρ W hcs bw hn hg
        cases hd
        have eg : ρ (.tmp 17) = .bool true := hg _ _ _ _ rfl rfl rfl
        have e0 : ρ (.tmp 0) = .slice (some ad) l.length k := hn 0 (by decide)
        clear hn hg
        refine .inl ⟨⟨_, _, rfl, rfl, eg⟩, ?_⟩
        refine .inl ⟨_, W, rfl, e0, Below.refl _ _⟩
      refine And.intro ?_ ?_
      · intro d hd ρ W hcs bw hn hg
        cases hd
        have eg : ρ (.tmp 17) = .bool true := hg _ _ _ _ rfl rfl rfl
        have e6 : ρ (.tmp 6) = .int .i64 (i : Int) := hn 6 (by decide)
        clear hn hg
        refine .inl ⟨⟨_, _, rfl, rfl, eg⟩, ?_⟩
        refine .inl ⟨_, W, rfl, e6, Below.refl _ _⟩
      refine And.intro ?_ ?_
      · intro d hd ρ W hcs bw hn hg
        cases hd
        have eg : ρ (.tmp 17) = .bool true := hg _ _ _ _ rfl rfl rfl
        have e18 : ρ (.tmp 18) = .slice (some ad) l.length k := hn 18 (by decide)
        have e19 : ρ (.tmp 19) = .int .i64 (i : Int) := hn 19 (by decide)
        clear hn hg
        refine .inl ⟨⟨_, _, rfl, rfl, eg⟩, ?_⟩
        refine .inl ⟨.pointer (some (ad.add (i * 7))), W, ?_, rfl, Below.refl _ _⟩
        go_simp
      refine And.intro ?_ ?_
      · intro d hd ρ W hcs bw hn hg
        cases hd
        have eg : ρ (.tmp 17) = .bool true := hg _ _ _ _ rfl rfl rfl
        have e20 : ρ (.tmp 20) = .pointer (some (ad.add (i * 7))) := hn 20 (by decide)
        clear hn hg
        refine .inl ⟨⟨_, _, rfl, rfl, eg⟩, ?_⟩
        refine .inl ⟨.pointer (some { block := (ad.add (i * 7)).block, off := (ad.add (i * 7)).off + 1 }), W, ?_, rfl, Below.refl _ _⟩
        go_simp
      refine And.intro ?_ ?_
      · intro d hd ρ W hcs bw hn hg
        cases hd
        have eg : ρ (.tmp 17) = .bool true := hg _ _ _ _ rfl rfl rfl
        have e21 : ρ (.tmp 21) = .pointer (some { block := (ad.add (i * 7)).block, off := (ad.add (i * 7)).off + 1 }) := hn 21 (by decide)
        clear hn hg
        refine .inl ⟨⟨_, _, rfl, rfl, eg⟩, ?_⟩
        have z0 : W.cell? { block := (ad.add (i * 7)).block, off := (ad.add (i * 7)).off + 1 } = some (.int .u32 (xq : Int)) := (bw.cell (by exact b0)).trans c1d
        refine .inl ⟨.int .u32 (xq : Int), W, ?_, rfl, Below.refl _ _⟩
        go_simp
      refine And.intro ?_ ?_
      · intro d hd ρ W hcs bw hn hg
        cases hd
        have eg : ρ (.tmp 17) = .bool true := hg _ _ _ _ rfl rfl rfl
        have e3 : ρ (.tmp 3) = .pointer (some ⟨gx, 0, none⟩) := hn 3 (by decide)
        clear hn hg
        refine .inl ⟨⟨_, _, rfl, rfl, eg⟩, ?_⟩
        refine .inl ⟨.pointer (some ⟨gx, 1, none⟩), W, ?_, rfl, Below.refl _ _⟩
        go_simp
      refine And.intro ?_ ?_
      · intro d hd ρ W hcs bw hn hg
        cases hd
        have eg : ρ (.tmp 17) = .bool true := hg _ _ _ _ rfl rfl rfl
        have e23 : ρ (.tmp 23) = .pointer (some ⟨gx, 1, none⟩) := hn 23 (by decide)
        clear hn hg
        refine .inl ⟨⟨_, _, rfl, rfl, eg⟩, ?_⟩
        have z0 : W.cell? ⟨gx, 1, none⟩ = some (.int .u32 (cb : Int)) := (Blk.below kxd bw (Blk.lt kxd)).cell 1
        refine .inl ⟨.int .u32 (cb : Int), W, ?_, rfl, Below.refl _ _⟩
        go_simp
      refine And.intro ?_ ?_
      · intro d hd ρ W hcs bw hn hg
        cases hd
        have eg : ρ (.tmp 17) = .bool true := hg _ _ _ _ rfl rfl rfl
        have e22 : ρ (.tmp 22) = .int .u32 (xq : Int) := hn 22 (by decide)
        have e24 : ρ (.tmp 24) = .int .u32 (cb : Int) := hn 24 (by decide)
        clear hn hg
        refine .inl ⟨⟨_, _, rfl, rfl, eg⟩, ?_⟩
        refine .inl ⟨.bool false, W, ?_, rfl, Below.refl _ _⟩
        go_simp
      refine And.intro ?_ ?_
      · intro d hd ρ W hcs bw hn hg
        cases hd
        have e17 : ρ (.tmp 17) = .bool true := hn 17 (by decide)
        have e25 : ρ (.tmp 25) = .bool false := hn 25 (by decide)
        clear hn hg
        refine .inl ⟨trivial, ?_⟩
        have hc1 := hcs.1
        refine .inl ⟨.bool false, W, ?_, rfl, Below.refl _ _⟩
        go_simp
      trivial
    · intro a' w' hsz hdf hb hVs
      have q26 : a'.eval (.tmp 26) = .bool false := hVs 26
      have ha := slot_over_seg 15 12 [] rfl (by kernel_rfl) (of_decide_eq_true (by kernel_rfl)) hsz hdf hVs
      clear hVs hsz hdf
      rw [show List.range' 15 12 = [15, 16, 17, 18, 19, 20, 21, 22, 23, 24, 25, 26] from rfl] at ha
      simp only [List.take_succ_cons, List.take_zero, List.drop_succ_cons, List.drop_zero, List.map_cons, List.map_nil, List.cons_append, List.nil_append, List.foldl_cons, List.foldl_nil, List.set_cons_zero, List.set_cons_succ, q26] at ha
      clear q26
      generalize a'.eval (.tmp 15) = x15 at ha
      generalize a'.eval (.tmp 16) = x16 at ha
      generalize a'.eval (.tmp 17) = x17 at ha
      generalize a'.eval (.tmp 18) = x18 at ha
      generalize a'.eval (.tmp 19) = x19 at ha
      generalize a'.eval (.tmp 20) = x20 at ha
      generalize a'.eval (.tmp 21) = x21 at ha
      generalize a'.eval (.tmp 22) = x22 at ha
      generalize a'.eval (.tmp 23) = x23 at ha
      generalize a'.eval (.tmp 24) = x24 at ha
      generalize a'.eval (.tmp 25) = x25 at ha
      subst ha
      have bw := BW.out.trans (hb.mono BW.out.size)
      have kx := kxd.below hb kxd.lt
      have hA4 := hAd.below hb
      have c1 := (hb.cell (by exact b0)).trans c1d
      have b1 : (ad.add (i * 7)).block < w'.heap.size := Nat.lt_of_lt_of_le b0 hb.size
      clear BW kxd hAd c1d b0 hb
      obtain ⟨w4, hw4⟩ : ∃ w4 : World, w4 = w' := ⟨_, rfl⟩
      rw [← hw4] at bw kx hA4 c1 b1 ⊢
      clear hw4
      go_upto_region 6 with fail
      have BW := Lib.hid bw.drew
      have kxd := kx.drew
      have hAd : Rows w4.drew (some ad) 7 cmL l := hA4
      have c1d : w4.drew.cell? { block := (ad.add (i * 7)).block, off := (ad.add (i * 7)).off + 1 } = some (.int .u32 (xq : Int)) := c1
      have b0 : (ad.add (i * 7)).block < w4.drew.heap.size := b1
      clear bw kx hA4 c1 b1
      by_cases q2 : xq = cb
      · have hres := HRES.out
        rw [if_neg q1, if_pos q2] at hres
        subst hres
        have hq2 : ((xq : Int) == (cb : Int)) = true := by rw [q2]; simp
        clear q2
        refine region_inv2 (by kernel_rfl) [] [(28, .int .i64 (i : Int)), (29, .bool true), (30, .bool true), (31, .slice (some ad) l.length k), (32, .int .i64 (i : Int)), (33, .pointer (some (ad.add (i * 7)))), (34, .pointer (some { block := (ad.add (i * 7)).block, off := (ad.add (i * 7)).off + 1 })), (35, .int .u32 (xq : Int)), (36, .pointer (some ⟨gx, 1, none⟩)), (37, .int .u32 (cb : Int)), (38, .bool true), (39, .bool true)] (by kernel_rfl) (by kernel_rfl) rfl (by kernel_rfl) ?_ ?_ ?_
        · intro q hq; cases hq
        · refine And.intro ?_ ?_
          · intro d hd ρ W hcs bw hn hg
            cases hd
            have e6 : ρ (.tmp 6) = .int .i64 (i : Int) := hn 6 (by decide)
            clear hn hg
            refine .inl ⟨trivial, ?_⟩
            refine .inl ⟨_, W, rfl, e6, Below.refl _ _⟩
          refine And.intro ?_ ?_
          · intro d hd ρ W hcs bw hn hg
            cases hd
            have e28 : ρ (.tmp 28) = .int .i64 (i : Int) := hn 28 (by decide)
            clear hn hg
            refine .inl ⟨trivial, ?_⟩
            have hc1 := hcs.1
            refine .inl ⟨.bool true, W, ?_, rfl, Below.refl _ _⟩
            go_simp
          refine And.intro ?_ ?_
          · intro d hd ρ W hcs bw hn hg
            cases hd
            have e29 : ρ (.tmp 29) = .bool true := hn 29 (by decide)
            clear hn hg
            refine .inl ⟨trivial, ?_⟩
            refine .inl ⟨_, W, rfl, e29, Below.refl _ _⟩
          refine And.intro ?_ ?_
          · intro d hd ρ W hcs bw hn hg
            cases hd
            have eg : ρ (.tmp 30) = .bool true := hg _ _ _ _ rfl rfl rfl
            have e0 : ρ (.tmp 0) = .slice (some ad) l.length k := hn 0 (by decide)
            clear hn hg
            refine .inl ⟨⟨_, _, rfl, rfl, eg⟩, ?_⟩
            refine .inl ⟨_, W, rfl, e0, Below.refl _ _⟩
          refine And.intro ?_ ?_
          · intro d hd ρ W hcs bw hn hg
            cases hd
            have eg : ρ (.tmp 30) = .bool true := hg _ _ _ _ rfl rfl rfl
            have e6 : ρ (.tmp 6) = .int .i64 (i : Int) := hn 6 (by decide)
            clear hn hg
            refine .inl ⟨⟨_, _, rfl, rfl, eg⟩, ?_⟩
            refine .inl ⟨_, W, rfl, e6, Below.refl _ _⟩
          refine And.intro ?_ ?_
          · intro d hd ρ W hcs bw hn hg
            cases hd
            have eg : ρ (.tmp 30) = .bool true := hg _ _ _ _ rfl rfl rfl
            have e31 : ρ (.tmp 31) = .slice (some ad) l.length k := hn 31 (by decide)
            have e32 : ρ (.tmp 32) = .int .i64 (i : Int) := hn 32 (by decide)
            clear hn hg
            refine .inl ⟨⟨_, _, rfl, rfl, eg⟩, ?_⟩
            refine .inl ⟨.pointer (some (ad.add (i * 7))), W, ?_, rfl, Below.refl _ _⟩
            go_simp
          refine And.intro ?_ ?_
          · intro d hd ρ W hcs bw hn hg
            cases hd
            have eg : ρ (.tmp 30) = .bool true := hg _ _ _ _ rfl rfl rfl
            have e33 : ρ (.tmp 33) = .pointer (some (ad.add (i * 7))) := hn 33 (by decide)
            clear hn hg
            refine .inl ⟨⟨_, _, rfl, rfl, eg⟩, ?_⟩
            refine .inl ⟨.pointer (some { block := (ad.add (i * 7)).block, off := (ad.add (i * 7)).off + 1 }), W, ?_, rfl, Below.refl _ _⟩
            go_simp
          refine And.intro ?_ ?_
          · intro d hd ρ W hcs bw hn hg
            cases hd
            have eg : ρ (.tmp 30) = .bool true := hg _ _ _ _ rfl rfl rfl
            have e34 : ρ (.tmp 34) = .pointer (some { block := (ad.add (i * 7)).block, off := (ad.add (i * 7)).off + 1 }) := hn 34 (by decide)
            clear hn hg
            refine .inl ⟨⟨_, _, rfl, rfl, eg⟩, ?_⟩
            have z0 : W.cell? { block := (ad.add (i * 7)).block, off := (ad.add (i * 7)).off + 1 } = some (.int .u32 (xq : Int)) := (bw.cell (by exact b0)).trans c1d
            refine .inl ⟨.int .u32 (xq : Int), W, ?_, rfl, Below.refl _ _⟩
            go_simp
          refine And.intro ?_ ?_
          · intro d hd ρ W hcs bw hn hg
            cases hd
            have eg : ρ (.tmp 30) = .bool true := hg _ _ _ _ rfl rfl rfl
            have e3 : ρ (.tmp 3) = .pointer (some ⟨gx, 0, none⟩) := hn 3 (by decide)
            clear hn hg
            refine .inl ⟨⟨_, _, rfl, rfl, eg⟩, ?_⟩
            refine .inl ⟨.pointer (some ⟨gx, 1, none⟩), W, ?_, rfl, Below.refl _ _⟩
            go_simp
          refine And.intro ?_ ?_
          · intro d hd ρ W hcs bw hn hg
            cases hd
            have eg : ρ (.tmp 30) = .bool true := hg _ _ _ _ rfl rfl rfl
            have e36 : ρ (.tmp 36) = .pointer (some ⟨gx, 1, none⟩) := hn 36 (by decide)
            clear hn hg
            refine .inl ⟨⟨_, _, rfl, rfl, eg⟩, ?_⟩
            have z0 : W.cell? ⟨gx, 1, none⟩ = some (.int .u32 (cb : Int)) := (Blk.below kxd bw (Blk.lt kxd)).cell 1
            refine .inl ⟨.int .u32 (cb : Int), W, ?_, rfl, Below.refl _ _⟩
            go_simp
          refine And.intro ?_ ?_
          · intro d hd ρ W hcs bw hn hg
            cases hd
            have eg : ρ (.tmp 30) = .bool true := hg _ _ _ _ rfl rfl rfl
            have e35 : ρ (.tmp 35) = .int .u32 (xq : Int) := hn 35 (by decide)
            have e37 : ρ (.tmp 37) = .int .u32 (cb : Int) := hn 37 (by decide)
            clear hn hg
            refine .inl ⟨⟨_, _, rfl, rfl, eg⟩, ?_⟩
            refine .inl ⟨.bool true, W, ?_, rfl, Below.refl _ _⟩
            go_simp
          refine And.intro ?_ ?_
          · intro d hd ρ W hcs bw hn hg
            cases hd
            have e30 : ρ (.tmp 30) = .bool true := hn 30 (by decide)
            have e38 : ρ (.tmp 38) = .bool true := hn 38 (by decide)
            clear hn hg
            refine .inl ⟨trivial, ?_⟩
            have hc1 := hcs.1
            refine .inl ⟨.bool true, W, ?_, rfl, Below.refl _ _⟩
            go_simp
          trivial
        · intro a' w' hsz hdf hb hVs
          have q39 : a'.eval (.tmp 39) = .bool true := hVs 39
          have ha := slot_over_seg 28 12 [] rfl (by kernel_rfl) (of_decide_eq_true (by kernel_rfl)) hsz hdf hVs
          clear hVs hsz hdf
          rw [show List.range' 28 12 = [28, 29, 30, 31, 32, 33, 34, 35, 36, 37, 38, 39] from rfl] at ha
          simp only [List.take_succ_cons, List.take_zero, List.drop_succ_cons, List.drop_zero, List.map_cons, List.map_nil, List.cons_append, List.nil_append, List.foldl_cons, List.foldl_nil, List.set_cons_zero, List.set_cons_succ, q39] at ha
          clear q39
          generalize a'.eval (.tmp 28) = x28 at ha
          generalize a'.eval (.tmp 29) = x29 at ha
          generalize a'.eval (.tmp 30) = x30 at ha
          generalize a'.eval (.tmp 31) = x31 at ha
          generalize a'.eval (.tmp 32) = x32 at ha
          generalize a'.eval (.tmp 33) = x33 at ha
          generalize a'.eval (.tmp 34) = x34 at ha
          generalize a'.eval (.tmp 35) = x35 at ha
          generalize a'.eval (.tmp 36) = x36 at ha
          generalize a'.eval (.tmp 37) = x37 at ha
          generalize a'.eval (.tmp 38) = x38 at ha
          subst ha
          have bw := BW.out.trans (hb.mono BW.out.size)
          have HQ : Hid (RefL w (some ad) l (.slice (some ad) l.length k) l w') := ⟨some ad, k, rfl, hk, hAd.below hb, .inl ⟨rfl, rfl⟩⟩
          clear HW HAPP kxd hAd hb BW c1d
          go_wp2_with fail
          exact bodyPost_ret (v := .tuple #[.slice (some ad) l.length k, .int .i64 0]) (by simp [results, Try.results36]) rfl ⟨_, rfl, HQ.out, bw⟩
      have hres := HRES.out
      rw [if_neg q1, if_neg q2] at hres
      subst hres
      have hq2 : ((xq : Int) == (cb : Int)) = false := beq_eq_false_iff_ne.2 (by omega)
      clear q1 q2 HRES
      refine region_inv2 (by kernel_rfl) [] [(28, .int .i64 (i : Int)), (29, .bool true), (30, .bool true), (31, .slice (some ad) l.length k), (32, .int .i64 (i : Int)), (33, .pointer (some (ad.add (i * 7)))), (34, .pointer (some { block := (ad.add (i * 7)).block, off := (ad.add (i * 7)).off + 1 })), (35, .int .u32 (xq : Int)), (36, .pointer (some ⟨gx, 1, none⟩)), (37, .int .u32 (cb : Int)), (38, .bool false), (39, .bool false)] (by kernel_rfl) (by kernel_rfl) rfl (by kernel_rfl) ?_ ?_ ?_
      · intro q hq; cases hq
      · refine And.intro ?_ ?_
        · intro d hd ρ W hcs bw hn hg
          cases hd
          have e6 : ρ (.tmp 6) = .int .i64 (i : Int) := hn 6 (by decide)
          clear hn hg
          refine .inl ⟨trivial, ?_⟩
          refine .inl ⟨_, W, rfl, e6, Below.refl _ _⟩
        refine And.intro ?_ ?_
        · intro d hd ρ W hcs bw hn hg
          cases hd
          have e28 : ρ (.tmp 28) = .int .i64 (i : Int) := hn 28 (by decide)
          clear hn hg
          refine .inl ⟨trivial, ?_⟩
          have hc1 := hcs.1
          refine .inl ⟨.bool true, W, ?_, rfl, Below.refl _ _⟩
          go_simp
        refine And.intro ?_ ?_
        · intro d hd ρ W hcs bw hn hg
          cases hd
          have e29 : ρ (.tmp 29) = .bool true := hn 29 (by decide)
          clear hn hg
          refine .inl ⟨trivial, ?_⟩
          refine .inl ⟨_, W, rfl, e29, Below.refl _ _⟩
        refine And.intro ?_ ?_
        · intro d hd ρ W hcs bw hn hg
          cases hd
          have eg : ρ (.tmp 30) = .bool true := hg _ _ _ _ rfl rfl rfl
          have e0 : ρ (.tmp 0) = .slice (some ad) l.length k := hn 0 (by decide)
          clear hn hg
          refine .inl ⟨⟨_, _, rfl, rfl, eg⟩, ?_⟩
          refine .inl ⟨_, W, rfl, e0, Below.refl _ _⟩
        refine And.intro ?_ ?_
        · intro d hd ρ W hcs bw hn hg
          cases hd
          have eg : ρ (.tmp 30) = .bool true := hg _ _ _ _ rfl rfl rfl
          have e6 : ρ (.tmp 6) = .int .i64 (i : Int) := hn 6 (by decide)
          clear hn hg
          refine .inl ⟨⟨_, _, rfl, rfl, eg⟩, ?_⟩
          refine .inl ⟨_, W, rfl, e6, Below.refl _ _⟩
        refine And.intro ?_ ?_
        · intro d hd ρ W hcs bw hn hg
          cases hd
          have eg : ρ (.tmp 30) = .bool true := hg _ _ _ _ rfl rfl rfl
          have e31 : ρ (.tmp 31) = .slice (some ad) l.length k := hn 31 (by decide)
          have e32 : ρ (.tmp 32) = .int .i64 (i : Int) := hn 32 (by decide)
          clear hn hg
          refine .inl ⟨⟨_, _, rfl, rfl, eg⟩, ?_⟩
          refine .inl ⟨.pointer (some (ad.add (i * 7))), W, ?_, rfl, Below.refl _ _⟩
          go_simp
        refine And.intro ?_ ?_
        · intro d hd ρ W hcs bw hn hg
          cases hd
          have eg : ρ (.tmp 30) = .bool true := hg _ _ _ _ rfl rfl rfl
          have e33 : ρ (.tmp 33) = .pointer (some (ad.add (i * 7))) := hn 33 (by decide)
          clear hn hg
          refine .inl ⟨⟨_, _, rfl, rfl, eg⟩, ?_⟩
          refine .inl ⟨.pointer (some { block := (ad.add (i * 7)).block, off := (ad.add (i * 7)).off + 1 }), W, ?_, rfl, Below.refl _ _⟩
          go_simp
        refine And.intro ?_ ?_
        · intro d hd ρ W hcs bw hn hg
          cases hd
          have eg : ρ (.tmp 30) = .bool true := hg _ _ _ _ rfl rfl rfl
          have e34 : ρ (.tmp 34) = .pointer (some { block := (ad.add (i * 7)).block, off := (ad.add (i * 7)).off + 1 }) := hn 34 (by decide)
          clear hn hg
          refine .inl ⟨⟨_, _, rfl, rfl, eg⟩, ?_⟩
          have z0 : W.cell? { block := (ad.add (i * 7)).block, off := (ad.add (i * 7)).off + 1 } = some (.int .u32 (xq : Int)) := (bw.cell (by exact b0)).trans c1d
          refine .inl ⟨.int .u32 (xq : Int), W, ?_, rfl, Below.refl _ _⟩
          go_simp
        refine And.intro ?_ ?_
        · intro d hd ρ W hcs bw hn hg
          cases hd
          have eg : ρ (.tmp 30) = .bool true := hg _ _ _ _ rfl rfl rfl
          have e3 : ρ (.tmp 3) = .pointer (some ⟨gx, 0, none⟩) := hn 3 (by decide)
          clear hn hg
          refine .inl ⟨⟨_, _, rfl, rfl, eg⟩, ?_⟩
          refine .inl ⟨.pointer (some ⟨gx, 1, none⟩), W, ?_, rfl, Below.refl _ _⟩
          go_simp
        refine And.intro ?_ ?_
        · intro d hd ρ W hcs bw hn hg
          cases hd
          have eg : ρ (.tmp 30) = .bool true := hg _ _ _ _ rfl rfl rfl
          have e36 : ρ (.tmp 36) = .pointer (some ⟨gx, 1, none⟩) := hn 36 (by decide)
          clear hn hg
          refine .inl ⟨⟨_, _, rfl, rfl, eg⟩, ?_⟩
          have z0 : W.cell? ⟨gx, 1, none⟩ = some (.int .u32 (cb : Int)) := (Blk.below kxd bw (Blk.lt kxd)).cell 1
          refine .inl ⟨.int .u32 (cb : Int), W, ?_, rfl, Below.refl _ _⟩
          go_simp
        refine And.intro ?_ ?_
        · intro d hd ρ W hcs bw hn hg
          cases hd
          have eg : ρ (.tmp 30) = .bool true := hg _ _ _ _ rfl rfl rfl
          have e35 : ρ (.tmp 35) = .int .u32 (xq : Int) := hn 35 (by decide)
          have e37 : ρ (.tmp 37) = .int .u32 (cb : Int) := hn 37 (by decide)
          clear hn hg
          refine .inl ⟨⟨_, _, rfl, rfl, eg⟩, ?_⟩
          refine .inl ⟨.bool false, W, ?_, rfl, Below.refl _ _⟩
          go_simp
        refine And.intro ?_ ?_
        · intro d hd ρ W hcs bw hn hg
          cases hd
          have e30 : ρ (.tmp 30) = .bool true := hn 30 (by decide)
          have e38 : ρ (.tmp 38) = .bool false := hn 38 (by decide)
          clear hn hg
          refine .inl ⟨trivial, ?_⟩
          have hc1 := hcs.1
          refine .inl ⟨.bool false, W, ?_, rfl, Below.refl _ _⟩
          go_simp
        trivial
      · intro a' w' hsz hdf hb hVs
        have q39 : a'.eval (.tmp 39) = .bool false := hVs 39
        have ha := slot_over_seg 28 12 [] rfl (by kernel_rfl) (of_decide_eq_true (by kernel_rfl)) hsz hdf hVs
        clear hVs hsz hdf
        rw [show List.range' 28 12 = [28, 29, 30, 31, 32, 33, 34, 35, 36, 37, 38, 39] from rfl] at ha
        simp only [List.take_succ_cons, List.take_zero, List.drop_succ_cons, List.drop_zero, List.map_cons, List.map_nil, List.cons_append, List.nil_append, List.foldl_cons, List.foldl_nil, List.set_cons_zero, List.set_cons_succ, q39] at ha
        clear q39
        generalize a'.eval (.tmp 28) = x28 at ha
        generalize a'.eval (.tmp 29) = x29 at ha
        generalize a'.eval (.tmp 30) = x30 at ha
        generalize a'.eval (.tmp 31) = x31 at ha
        generalize a'.eval (.tmp 32) = x32 at ha
        generalize a'.eval (.tmp 33) = x33 at ha
        generalize a'.eval (.tmp 34) = x34 at ha
        generalize a'.eval (.tmp 35) = x35 at ha
        generalize a'.eval (.tmp 36) = x36 at ha
        generalize a'.eval (.tmp 37) = x37 at ha
        generalize a'.eval (.tmp 38) = x38 at ha
        subst ha
        have bw := BW.out.trans (hb.mono BW.out.size)
        have kx := kxd.below hb kxd.lt
        have hA5 := hAd.below hb
        clear BW kxd hAd c1d b0 hb
        obtain ⟨w5, hw5⟩ : ∃ w5 : World, w5 = w' := ⟨_, rfl⟩
        rw [← hw5] at bw kx hA5 ⊢
        clear hw5
        have hi0 : ¬ (i : Int) < 0 := by omega
        go_wp2_with fail
        refine (HW.out w5 hA5).mono ?_; rintro e w6 ⟨u, rfl, ho6, B6⟩
        obtain ⟨A6, k6, rfl, hk6, hr6⟩ := own_rows cmL_len (by omega) ho6
        have bw := bw.trans (B6.mono bw.size)
        have kx := kx.below B6 kx.lt
        have HL := Lib.hid hk6
        clear HW B6 hA5 ho6 hk6
        go_upto_region 10 with fail
        obtain ⟨⟨v1, wA, gA, wAc, v2, wB, a1, ab, a2, a3, a4, a5, a6⟩, ⟨gB, wBc, v1', wA', v2', wB', bb, b1, b2, b3, b4, b5, b6⟩⟩ := HAPP.out w6.drew (l.eraseIdx i) A6 k6 hr6 (by have := HEL.out; omega)
        have HQA : Hid (RefL w (some ad) l v2 (l.eraseIdx i ++ [⟨ca, cb, ck, cs, ct, cu, cz⟩]) wB) := refL_below (refL_own a3) bw.drew
        have HQB : Hid (RefL w (some ad) l v2' (l.eraseIdx i ++ [⟨ca, cb, ck, cs, ct, cu, cz⟩]) wB') := refL_below (refL_own b3) bw.drew
        have bzA := bw.drew.trans (a4.mono bw.drew.size)
        have bzB := bw.drew.trans (b4.mono bw.drew.size)
        have k1 := kx.drew
        have k2 := k1.below a6 k1.lt
        have k3 := k1.below a5 k1.lt
        have k4 := k1.below b5 k1.lt
        have k5 := k1.below a4 k1.lt
        have k6 := k1.below b4 k1.lt
        have k7 := k1.below b6 k1.lt
        clear a3 a4 a5 a6 b3 b4 b5 b6 bw kx hr6 HAPP
        refine wp_region_held_drew (S := (fun W : World => Blk W gx 36 #[.int .u8 (ca : Int), .int .u32 (cb : Int), .int .u8 (ck : Int), .string ⟨cs.toArray⟩, .string ⟨ct.toArray⟩, .string ⟨cu.toArray⟩, .int .u8 (cz : Int)])) (by kernel_rfl) (k1) (fun hHeld => ?_)
        refine take1 (i := 0) (d := 46) (v := ?_) rfl (by kernel_rfl) (by kernel_rfl) (by kernel_rfl) rfl (fun _ _ _ h => h) (Or.inl ⟨by rfl, ?_⟩) (by assumption) ?_
        rotate_left
        · (intro w hSw; (try dsimp only at hSw); go_simp); with_reducible rfl
        simp only [List.set_cons_zero, List.set_cons_succ]
        refine take1 (i := 2) (d := 48) (v := ?_) rfl (by kernel_rfl) (by kernel_rfl) (by kernel_rfl) rfl (fun _ _ _ h => h) (Or.inl ⟨by rfl, ?_⟩) (by assumption) ?_
        rotate_left
        · intro w hSw; refine (exec_load (.tmp 3) (by rfl) (by rfl) (blk_load (P := Try.prog) (ty := 36) hSw Try.underlying36 rfl size_cm)).trans ?_; with_reducible rfl
        simp only [List.set_cons_zero, List.set_cons_succ]
        refine wpAnyH_ready (rs := [1, 3]) (by kernel_rfl) (by simp) (AllReadyH.cons rfl (fun Kreg hKreg => ?_) (AllReadyH.cons rfl (fun Kreg hKreg => ?_) AllReadyH.nil))
        · refine step_run_append (by rfl) (.const (.slice none 0 0)) (.tmp 46) 30 (by rfl) (by rfl) (by rfl) (by first | exact a1 | exact b1) ?_
          refine hKreg.out _ _ ((by first | exact k1 | exact k2 | exact k3 | exact k4 | exact k5 | exact k6 | exact k7)) (fun hHeld => ?_)
          clear hKreg Kreg
          refine wpAnyH_put (d := 47) (by rfl) ?_
          simp only [List.set_cons_zero, List.set_cons_succ]
          refine wpAnyH_ready (rs := [3]) (by kernel_rfl) (by simp) (AllReadyH.cons rfl (fun Kreg hKreg => ?_) AllReadyH.nil)
          refine step_exec (by rfl) _ _ (exec_build1 (t := 30) (x := .tmp 48) (by rfl) (by rfl) (by first | exact ab | exact bb)) ?_
          refine hKreg.out _ _ ((by first | exact k1 | exact k2 | exact k3 | exact k4 | exact k5 | exact k6 | exact k7)) (fun hHeld => ?_)
          clear hKreg Kreg
          refine wpAnyH_put (d := 49) (by rfl) ?_
          simp only [List.set_cons_zero, List.set_cons_succ]
          refine wpAnyH_ready (rs := [4]) (by kernel_rfl) (by simp) (AllReadyH.cons rfl (fun Kreg hKreg => ?_) AllReadyH.nil)
          refine step_run_append (by rfl) (.tmp 47) (.tmp 49) 30 (by rfl) (by rfl) (by rfl) (by first | exact a2 | exact b2) ?_
          refine hKreg.out _ _ ((by first | exact k1 | exact k2 | exact k3 | exact k4 | exact k5 | exact k6 | exact k7)) (fun hHeld => ?_)
          clear hKreg Kreg
          refine wpAnyH_put (d := 50) (by rfl) ?_
          simp only [List.set_cons_zero, List.set_cons_succ]
          refine take1 (i := 5) (d := 4) (v := ?_) rfl (by kernel_rfl) (by kernel_rfl) (by kernel_rfl) rfl (fun _ _ _ h => h) (Or.inl ⟨by rfl, ?_⟩) (by assumption) ?_
          rotate_left
          · (intro w hSw; (try dsimp only at hSw); go_simp); with_reducible rfl
          simp only [List.set_cons_zero, List.set_cons_succ]
          refine take1 (i := 6) (d := 5) (v := ?_) rfl (by kernel_rfl) (by kernel_rfl) (by kernel_rfl) rfl (fun _ _ _ h => h) (Or.inl ⟨by rfl, ?_⟩) (by assumption) ?_
          rotate_left
          · (intro w hSw; (try dsimp only at hSw); go_simp); with_reducible rfl
          simp only [List.set_cons_zero, List.set_cons_succ]
          refine wpAnyH_done (by kernel_rfl) ?_ _
          go_wp2_with fail
          first
            | exact bodyPost_ret (v := .tuple #[v2, .int .i64 0]) (by simp [results, Try.results36]) rfl ⟨_, rfl, HQA.out, bzA⟩
            | exact bodyPost_ret (v := .tuple #[v2', .int .i64 0]) (by simp [results, Try.results36]) rfl ⟨_, rfl, HQB.out, bzB⟩
        · refine step_exec (by rfl) _ _ (exec_build1 (t := 30) (x := .tmp 48) (by rfl) (by rfl) (by first | exact ab | exact bb)) ?_
          refine hKreg.out _ _ ((by first | exact k1 | exact k2 | exact k3 | exact k4 | exact k5 | exact k6 | exact k7)) (fun hHeld => ?_)
          clear hKreg Kreg
          refine wpAnyH_put (d := 49) (by rfl) ?_
          simp only [List.set_cons_zero, List.set_cons_succ]
          refine wpAnyH_ready (rs := [1]) (by kernel_rfl) (by simp) (AllReadyH.cons rfl (fun Kreg hKreg => ?_) AllReadyH.nil)
          refine step_run_append (by rfl) (.const (.slice none 0 0)) (.tmp 46) 30 (by rfl) (by rfl) (by rfl) (by first | exact a1 | exact b1) ?_
          refine hKreg.out _ _ ((by first | exact k1 | exact k2 | exact k3 | exact k4 | exact k5 | exact k6 | exact k7)) (fun hHeld => ?_)
          clear hKreg Kreg
          refine wpAnyH_put (d := 47) (by rfl) ?_
          simp only [List.set_cons_zero, List.set_cons_succ]
          refine wpAnyH_ready (rs := [4]) (by kernel_rfl) (by simp) (AllReadyH.cons rfl (fun Kreg hKreg => ?_) AllReadyH.nil)
          refine step_run_append (by rfl) (.tmp 47) (.tmp 49) 30 (by rfl) (by rfl) (by rfl) (by first | exact a2 | exact b2) ?_
          refine hKreg.out _ _ ((by first | exact k1 | exact k2 | exact k3 | exact k4 | exact k5 | exact k6 | exact k7)) (fun hHeld => ?_)
          clear hKreg Kreg
          refine wpAnyH_put (d := 50) (by rfl) ?_
          simp only [List.set_cons_zero, List.set_cons_succ]
          refine take1 (i := 5) (d := 4) (v := ?_) rfl (by kernel_rfl) (by kernel_rfl) (by kernel_rfl) rfl (fun _ _ _ h => h) (Or.inl ⟨by rfl, ?_⟩) (by assumption) ?_
          rotate_left
          · (intro w hSw; (try dsimp only at hSw); go_simp); with_reducible rfl
          simp only [List.set_cons_zero, List.set_cons_succ]
          refine take1 (i := 6) (d := 5) (v := ?_) rfl (by kernel_rfl) (by kernel_rfl) (by kernel_rfl) rfl (fun _ _ _ h => h) (Or.inl ⟨by rfl, ?_⟩) (by assumption) ?_
          rotate_left
          · (intro w hSw; (try dsimp only at hSw); go_simp); with_reducible rfl
          simp only [List.set_cons_zero, List.set_cons_succ]
          refine wpAnyH_done (by kernel_rfl) ?_ _
          go_wp2_with fail
          first
            | exact bodyPost_ret (v := .tuple #[v2, .int .i64 0]) (by simp [results, Try.results36]) rfl ⟨_, rfl, HQA.out, bzA⟩
            | exact bodyPost_ret (v := .tuple #[v2', .int .i64 0]) (by simp [results, Try.results36]) rfl ⟨_, rfl, HQB.out, bzB⟩

end Go.Proofs.Ytgpdggojajjppaa.Bat
