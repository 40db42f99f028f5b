/- The reference of chapter 19, walked: Bound. Conditions: the lists can be read. -/
import Derived.Test.YtbamfnlgapchkaaElRA
import Derived.Test.YtbamfnlgapchkaaElFreeL
namespace Go.Proofs.Ytbamfnlgapchkaa.Ele
open Go Go.RowKit Bal Mem DrawInv

theorem rows_out {α : Type} {w w' : World} {S : List Nat} {A : Option Addr} {sz : Nat} {cells : α → List Value} {l : List α} (h : Rows w A sz cells l) (o : Outs S w w') (hA : ∀ ad, A = some ad → ad.block ∉ S) : Rows w' A sz cells l := by
  intro k x hx
  obtain ⟨ad, e, hb, hc⟩ := h k x hx
  exact ⟨ad, e, Nat.lt_of_lt_of_le hb o.size, fun j v hv => (o.cell (by rw [block_of_add]; exact hb) (by rw [block_of_add]; exact hA ad e)).trans (hc j v hv)⟩
theorem rbelow_e (a b : B) (w : World) : Calls Try.prog 87 #[bV a, bV b] w fun e w' => e = .returned (.bool (ltB a b)) ∧ Below w.heap.size w w' :=
  (refBelow_any a b w).mono fun _ _ ⟨h, hal⟩ => ⟨h, hal.below⟩
theorem st_vt {w : World} {g : Nat} {old : Array Value} (h : Blk w g 73 old) (ho : old.size = 4) (a b c : Nat) (s : ByteArray) : ∃ w', (Instr.storeAt 73 (.pointer (some ⟨g, 0, none⟩)) (.agg #[.int .u64 (a : Int), .int .u64 (b : Int), .int .u8 (c : Int), .string s])).run Try.prog w = .ok () w' ∧ Blk w' g 73 #[.int .u64 (a : Int), .int .u64 (b : Int), .int .u8 (c : Int), .string s] ∧ w.grownBy w' (some g) :=
  ⟨_, blk_store h ho (by kernel_rfl) rfl, Blk.setRow h, grown_setRow (World.grownBy.refl _ _) (.inr rfl)⟩
theorem best_ne {V : List Vt} {i : Nat} {x : Vt} {s : Nat} (hx : V[i]? = some x) (h : x.slot ≠ s) : bestT (V.take (i + 1)) s = bestT (V.take i) s := by
  rw [List.take_add_one, hx]
  show bestT (V.take i ++ [x]) s = _
  rw [best_snoc]; unfold bestF; rw [if_neg h]
theorem best_eq {V : List Vt} {i : Nat} {x : Vt} {s : Nat} (hx : V[i]? = some x) (h : x.slot = s) : bestT (V.take (i + 1)) s = (match bestT (V.take i) s with | none => some x | some o => if ltB o.b x.b then some x else some o) := by
  rw [List.take_add_one, hx]
  show bestT (V.take i ++ [x]) s = _
  rw [best_snoc]; unfold bestF; rw [if_pos h]; cases bestT (V.take i) s <;> rfl
set_option linter.unusedSimpArgs false in
set_option linter.unusedVariables false in
set_option maxRecDepth 100000 in
set_option maxHeartbeats 2000000 in
theorem rbound_any {w0 w : World} {b : B} {L : List Td} {A : Option Addr} {cp : Nat} (h : RefR w0 w b L A cp) (h0 : Below w0.heap.size w0 w) (k : Nat) (hk : L.length = k) (slot : Nat) :
    Calls Try.prog 67 #[.agg (rrC b A k cp), .int .u64 (slot : Int)] w fun e w' => e = .returned (.tuple #[.string ⟨(boundV (roOf b L) slot).toArray⟩, .bool (boundB (roOf b L) slot)]) ∧ Below w.heap.size w w' := by
  have HVO := Lib.hid (fun (W : World) (hb : Below w.heap.size w W) => rvotes_any (h.below hb) (h0.trans (hb.mono h0.size)) k hk)
  have HLA := Lib.hid (fun (W : World) (hb : Below w.heap.size w W) => rlast_any (h.below hb) (h0.trans (hb.mono h0.size)) k hk)
  have hfl := h.flat
  unfold rrC at HVO HLA ⊢
  obtain ⟨bn, hbn⟩ : ∃ x, b.n = x := ⟨_, rfl⟩
  obtain ⟨br, hbr⟩ : ∃ x, b.r = x := ⟨_, rfl⟩
  rw [hbn, hbr] at HVO HLA ⊢
  obtain ⟨V, hV⟩ : ∃ V, V = flatT L := ⟨_, rfl⟩
  rw [← hV] at HVO HLA hfl
  have HVV : Hid (boundV (roOf b L) slot = ((bestT V slot).getD vt0).val ∧ boundB (roOf b L) slot = ((bestT V slot).isSome || decide (slot < lastT V))) := by rw [hV]; exact ⟨rfl, rfl⟩
  obtain ⟨vn, hvn⟩ : ∃ n, n = V.length := ⟨_, rfl⟩
  obtain ⟨la, hla⟩ : ∃ x, x = lastT V := ⟨_, rfl⟩
  rw [← hla] at HLA HVV
  have HVN := Lib.hid hvn
  have hv1 : vn ≤ 10000 := by rw [hvn]; exact hfl
  clear hV h h0 hk hbn hbr hla hfl
  obtain ⟨gx, hgx⟩ : ∃ g, g = w.heap.size := ⟨_, rfl⟩
  obtain ⟨gv, hgv⟩ : ∃ g, g = w.heap.size + 1 := ⟨_, rfl⟩
  obtain ⟨w1, hw1⟩ : ∃ W, W = w.alloc (.cells #[.int .u64 (bn : Int), .int .u8 (br : Int), .slice A k cp] 93) := ⟨_, rfl⟩
  obtain ⟨wA, hwA⟩ : ∃ W, W = w1.alloc (.cells #[.int .u64 0, .int .u64 0, .int .u8 0, .string ⟨#[]⟩] 73) := ⟨_, rfl⟩
  have hs1 : w1.heap.size = gv := by rw [hw1, hgv, World.alloc, Array.size_push]
  have bw : Below w.heap.size w wA := by
    rw [hwA, hw1]
    refine ((Below.refl _ w).alloc (Nat.le_refl _) _).alloc ?_ _
    rw [← hw1, hs1, hgv]; omega
  have kx : Blk wA gx 93 #[.int .u64 (bn : Int), .int .u8 (br : Int), .slice A k cp] := by rw [hwA, hw1, hgx]; exact (Blk.new w 93 #[.int .u64 (bn : Int), .int .u8 (br : Int), .slice A k cp]).alloc _
  have kv : Blk wA gv 73 #[.int .u64 0, .int .u64 0, .int .u8 0, .string ⟨#[]⟩] := by rw [hwA, ← hs1]; exact Blk.new w1 73 #[.int .u64 0, .int .u64 0, .int .u8 0, .string ⟨#[]⟩]
  have hup : Hid ((w.alloc (.cells #[.int .u64 (bn : Int), .int .u8 (br : Int), .slice A k cp] 93)).alloc (.cells #[.int .u64 0, .int .u64 0, .int .u8 0, .string ⟨#[]⟩] 73) = wA) := by show _ = _; rw [hwA, hw1]
  have hug : Hid (w.heap.size = gx ∧ w.heap.size + 1 = gv) := ⟨hgx.symm, hgv.symm⟩
  have HG : Hid (w.heap.size ≤ gv ∧ gx ≠ gv) := by show _ ∧ _; omega
  clear hwA hw1 hs1 hgx hgv
  have x0 := kx.cell 0
  have x1 := kx.cell 1
  have x2 := kx.cell 2
  go_enter Try.func67, Try.ntmps67
  go_upto_region 2 with fail
  rw [show (w.alloc (.cells #[.int .u64 (bn : Int), .int .u8 (br : Int), .slice A k cp] 93)).alloc (.cells #[.int .u64 0, .int .u64 0, .int .u8 0, .string ⟨#[]⟩] 73) = wA from hup.out, hug.out.2, hug.out.1]
  clear hup hug
  go_wp2_with fail
  refine (HVO.out wA bw).mono ?_; rintro e w2 hvv
  obtain ⟨A7, c7, rfl, hr7, hA7, B7⟩ := hvv
  rw [← HVN.out]
  have hgv2 := kv.lt
  have kx2 := kx.below B7 kx.lt
  have kv2 := kv.below B7 kv.lt
  have b2 := bw.trans (B7.mono bw.size)
  have HR7 := Lib.hid (And.intro hr7 (show ∀ ad, A7 = some ad → ad.block ∉ [gv] from fun ad e => by have := hA7 ad e; simp; omega))
  have HB2 := Lib.hid b2
  clear HVO x0 x1 x2 kx kv B7 hr7 hA7 hgv2 bw b2 hvn
  go_wp2_with fail
  go_loopg [7, 9] vn (fun gk v7 v9 wr => ∃ (i : Nat) (q : Option Vt), i + gk = vn ∧ v9 = .int .i64 (i : Int) ∧ v7 = .bool q.isSome ∧ Hid (q = bestT (V.take i) slot) ∧ Blk wr gv 73 (vtC (q.getD vt0)) ∧ Blk wr gx 93 #[.int .u64 (bn : Int), .int .u8 (br : Int), .slice A k cp] ∧ Outs [gv] w2 wr)
  case atStart => exact ⟨0, none, by omega, rfl, rfl, rfl, kv2, kx2, Outs.refl _ _⟩
  case round =>
    clear kv2 kx2
    obtain ⟨i, q, hi, rfl, rfl, HBT, kv, kx, oo⟩ := hrel
    have bw : Below w.heap.size w wr := HB2.out.trans (oo.below HB2.out.size (fun g hg => by rw [List.mem_singleton.1 hg]; exact HG.out.1))
    have HI := Lib.hid hi
    by_cases h4 : i < vn
    · have hk4 : (i : Int) < (vn : Int) := by omega
      obtain ⟨x, hx⟩ : ∃ x, V[i]? = some x := ⟨_, List.getElem?_eq_getElem (by rw [← HVN.out]; exact h4)⟩
      obtain ⟨ad, hAe, hcs⟩ := row4_all (rows_out HR7.out.1 oo HR7.out.2) hx
      subst hAe
      have hc := hcs wr (Below.refl _ _)
      have HX := Lib.hid hx
      have HO := Lib.hid oo
      obtain ⟨y0, yn, yr, yv⟩ := x
      dsimp only at hc
      have e0 : wr.drew.cell? (ad.add (i * 4)) = some (.int .u64 (y0 : Int)) := hc.1
      have e1 : wr.drew.cell? { block := (ad.add (i * 4)).block, off := (ad.add (i * 4)).off + 1 } = some (.int .u64 (yn : Int)) := hc.2.1
      have e2 : wr.drew.cell? { block := (ad.add (i * 4)).block, off := (ad.add (i * 4)).off + 2 } = some (.int .u8 (yr : Int)) := hc.2.2.1
      have e3 : wr.drew.cell? { block := (ad.add (i * 4)).block, off := (ad.add (i * 4)).off + 3 } = some (.string ⟨yv.toArray⟩) := hc.2.2.2
      have kxd : Blk wr.drew gx 93 #[.int .u64 (bn : Int), .int .u8 (br : Int), .slice A k cp] := kx
      have bd : Below wr.drew.heap.size wr.drew wr.drew := Below.refl _ _
      clear hc hcs hx oo kx h4 hi
      by_cases hys : y0 = slot
      rotate_left
      · have hs0 : ((y0 : Int) == (slot : Int)) = false := beq_eq_false_iff_ne.2 (by omega)
        have HBN : Hid (q = bestT (V.take (i + 1)) slot) := by show _ = _; rw [best_ne HX.out hys]; exact HBT.out
        have kvd : Blk wr.drew gv 73 (vtC (q.getD vt0)) := kv
        obtain ⟨qs, hqs⟩ : ∃ s, s = q.isSome := ⟨_, rfl⟩
        have HQS : Hid (qs = q.isSome) := hqs
        rw [← hqs]
        clear kv hys hqs
        go_wp2_with fail
        refine region_inv2 (by kernel_rfl) [] [(18, .slice (some ad) vn c7), (19, .int .i64 (i : Int)), (20, .pointer (some (ad.add (i * 4)))), (21, .pointer (some (ad.add (i * 4)))), (22, .int .u64 (y0 : Int)), (23, .int .u64 (slot : Int)), (24, .bool false), (25, .bool false), (26, undef), (27, undef), (28, undef), (29, undef), (30, undef), (31, undef), (32, undef), (33, undef), (34, undef), (35, undef), (36, undef), (37, undef), (38, .bool false)] (by kernel_rfl) (by kernel_rfl) rfl (by kernel_rfl) ?_ ?_ ?_
        · intro q hq; cases hq
        · refine And.intro ?_ ?_
          · intro d hd ρ W hcs bw hn hg
            cases hd
            have e8 : ρ (.tmp 8) = .slice (some ad) vn c7 := hn 8 (by decide)
            clear hn hg
            refine .inl ⟨trivial, ?_⟩
            refine .inl ⟨_, W, rfl, e8, Below.refl _ _⟩
          refine And.intro ?_ ?_
          · intro d hd ρ W hcs bw hn hg
            cases hd
            have e9 : ρ (.tmp 9) = .int .i64 (i : Int) := hn 9 (by decide)
            clear hn hg
            refine .inl ⟨trivial, ?_⟩
            refine .inl ⟨_, W, rfl, e9, Below.refl _ _⟩
          refine And.intro ?_ ?_
          · intro d hd ρ W hcs bw hn hg
            cases hd
            have e18 : ρ (.tmp 18) = .slice (some ad) vn c7 := hn 18 (by decide)
            have e19 : ρ (.tmp 19) = .int .i64 (i : Int) := hn 19 (by decide)
            clear hn hg
            refine .inl ⟨trivial, ?_⟩
            refine .inl ⟨.pointer (some (ad.add (i * 4))), W, ?_, rfl, Below.refl _ _⟩
            go_simp
          refine And.intro ?_ ?_
          · intro d hd ρ W hcs bw hn hg
            cases hd
            have e20 : ρ (.tmp 20) = .pointer (some (ad.add (i * 4))) := hn 20 (by decide)
            clear hn hg
            refine .inl ⟨trivial, ?_⟩
            refine .inl ⟨.pointer (some (ad.add (i * 4))), W, ?_, rfl, Below.refl _ _⟩
            go_simp
          refine And.intro ?_ ?_
          · intro d hd ρ W hcs bw hn hg
            cases hd
            have e21 : ρ (.tmp 21) = .pointer (some (ad.add (i * 4))) := hn 21 (by decide)
            clear hn hg
            refine .inl ⟨trivial, ?_⟩
            have z0 : W.cell? (ad.add (i * 4)) = some (.int .u64 (y0 : Int)) := (bw.cell (cell_lt e0)).trans e0
            refine .inl ⟨.int .u64 (y0 : Int), W, ?_, rfl, Below.refl _ _⟩
            go_simp
          refine And.intro ?_ ?_
          · intro d hd ρ W hcs bw hn hg
            cases hd
            have e1 : ρ (.tmp 1) = .int .u64 (slot : Int) := hn 1 (by decide)
            clear hn hg
            refine .inl ⟨trivial, ?_⟩
            refine .inl ⟨_, W, rfl, e1, Below.refl _ _⟩
          refine And.intro ?_ ?_
          · intro d hd ρ W hcs bw hn hg
            cases hd
            have e22 : ρ (.tmp 22) = .int .u64 (y0 : Int) := hn 22 (by decide)
            have e23 : ρ (.tmp 23) = .int .u64 (slot : Int) := hn 23 (by decide)
            clear hn hg
            refine .inl ⟨trivial, ?_⟩
            refine .inl ⟨.bool false, W, ?_, rfl, Below.refl _ _⟩
            go_simp
          refine And.intro ?_ ?_
          · intro d hd ρ W hcs bw hn hg
            cases hd
            have e24 : ρ (.tmp 24) = .bool false := hn 24 (by decide)
            clear hn hg
            refine .inl ⟨trivial, ?_⟩
            refine .inl ⟨_, W, rfl, e24, Below.refl _ _⟩
          refine And.intro ?_ ?_
          · intro d hd ρ W hcs bw hn hg
            cases hd
            have eg : ρ (.tmp 25) = .bool false := hg _ _ _ _ rfl rfl rfl
            exact .inr ⟨⟨_, _, _, rfl, rfl, eg, nofun⟩, rfl⟩
          refine And.intro ?_ ?_
          · intro d hd ρ W hcs bw hn hg
            cases hd
            have eg : ρ (.tmp 25) = .bool false := hg _ _ _ _ rfl rfl rfl
            exact .inr ⟨⟨_, _, _, rfl, rfl, eg, nofun⟩, rfl⟩
          refine And.intro ?_ ?_
          · intro d hd ρ W hcs bw hn hg
            cases hd
            have eg : ρ (.tmp 25) = .bool false := hg _ _ _ _ rfl rfl rfl
            exact .inr ⟨⟨_, _, _, rfl, rfl, eg, nofun⟩, rfl⟩
          refine And.intro ?_ ?_
          · intro d hd ρ W hcs bw hn hg
            cases hd
            have eg : ρ (.tmp 28) = undef := hg _ _ _ _ rfl rfl rfl
            exact .inr ⟨⟨_, _, _, rfl, rfl, eg, nofun⟩, rfl⟩
          refine And.intro ?_ ?_
          · intro d hd ρ W hcs bw hn hg
            cases hd
            have eg : ρ (.tmp 28) = undef := hg _ _ _ _ rfl rfl rfl
            exact .inr ⟨⟨_, _, _, rfl, rfl, eg, nofun⟩, rfl⟩
          refine And.intro ?_ ?_
          · intro d hd ρ W hcs bw hn hg
            cases hd
            have eg : ρ (.tmp 28) = undef := hg _ _ _ _ rfl rfl rfl
            exact .inr ⟨⟨_, _, _, rfl, rfl, eg, nofun⟩, rfl⟩
          refine And.intro ?_ ?_
          · intro d hd ρ W hcs bw hn hg
            cases hd
            have eg : ρ (.tmp 28) = undef := hg _ _ _ _ rfl rfl rfl
            exact .inr ⟨⟨_, _, _, rfl, rfl, eg, nofun⟩, rfl⟩
          refine And.intro ?_ ?_
          · intro d hd ρ W hcs bw hn hg
            cases hd
            have eg : ρ (.tmp 28) = undef := hg _ _ _ _ rfl rfl rfl
            exact .inr ⟨⟨_, _, _, rfl, rfl, eg, nofun⟩, rfl⟩
          refine And.intro ?_ ?_
          · intro d hd ρ W hcs bw hn hg
            cases hd
            have eg : ρ (.tmp 28) = undef := hg _ _ _ _ rfl rfl rfl
            exact .inr ⟨⟨_, _, _, rfl, rfl, eg, nofun⟩, rfl⟩
          refine And.intro ?_ ?_
          · intro d hd ρ W hcs bw hn hg
            cases hd
            have eg : ρ (.tmp 28) = undef := hg _ _ _ _ rfl rfl rfl
            exact .inr ⟨⟨_, _, _, rfl, rfl, eg, nofun⟩, rfl⟩
          refine And.intro ?_ ?_
          · intro d hd ρ W hcs bw hn hg
            cases hd
            have eg : ρ (.tmp 28) = undef := hg _ _ _ _ rfl rfl rfl
            exact .inr ⟨⟨_, _, _, rfl, rfl, eg, nofun⟩, rfl⟩
          refine And.intro ?_ ?_
          · intro d hd ρ W hcs bw hn hg
            cases hd
            have eg : ρ (.tmp 25) = .bool false := hg _ _ _ _ rfl rfl rfl
            exact .inr ⟨⟨_, _, _, rfl, rfl, eg, nofun⟩, rfl⟩
          refine And.intro ?_ ?_
          · intro d hd ρ W hcs bw hn hg
            cases hd
            have e25 : ρ (.tmp 25) = .bool false := hn 25 (by decide)
            have e37 : ρ (.tmp 37) = undef := hn 37 (by decide)
            clear hn hg
            refine .inl ⟨trivial, ?_⟩
            have hc1 := hcs.1
            refine .inl ⟨.bool false, W, ?_, rfl, Below.refl _ _⟩
            go_simp
          trivial
        · intro a' w' hsz hdf hb hVs
          have q38 : a'.eval (.tmp 38) = .bool false := hVs 38
          have ha := slot_over_seg 18 21 [] rfl (by kernel_rfl) (of_decide_eq_true (by kernel_rfl)) hsz hdf hVs
          clear hVs hsz hdf
          rw [show List.range' 18 21 = [18, 19, 20, 21, 22, 23, 24, 25, 26, 27, 28, 29, 30, 31, 32, 33, 34, 35, 36, 37, 38] from rfl] at ha
          simp only [List.take_succ_cons, List.take_zero, List.drop_succ_cons, List.drop_zero, List.map_cons, List.map_nil, List.cons_append, List.nil_append, List.foldl_cons, List.foldl_nil, List.set_cons_zero, List.set_cons_succ, q38] at ha
          clear q38
          generalize a'.eval (.tmp 18) = x18 at ha
          generalize a'.eval (.tmp 19) = x19 at ha
          generalize a'.eval (.tmp 20) = x20 at ha
          generalize a'.eval (.tmp 21) = x21 at ha
          generalize a'.eval (.tmp 22) = x22 at ha
          generalize a'.eval (.tmp 23) = x23 at ha
          generalize a'.eval (.tmp 24) = x24 at ha
          generalize a'.eval (.tmp 25) = x25 at ha
          generalize a'.eval (.tmp 26) = x26 at ha
          generalize a'.eval (.tmp 27) = x27 at ha
          generalize a'.eval (.tmp 28) = x28 at ha
          generalize a'.eval (.tmp 29) = x29 at ha
          generalize a'.eval (.tmp 30) = x30 at ha
          generalize a'.eval (.tmp 31) = x31 at ha
          generalize a'.eval (.tmp 32) = x32 at ha
          generalize a'.eval (.tmp 33) = x33 at ha
          generalize a'.eval (.tmp 34) = x34 at ha
          generalize a'.eval (.tmp 35) = x35 at ha
          generalize a'.eval (.tmp 36) = x36 at ha
          generalize a'.eval (.tmp 37) = x37 at ha
          subst ha
          have oz : Outs [gv] w2 w' := HO.out.trans (Outs.of_below ((Below.refl _ wr).drew.trans hb))
          have kz := kvd.below hb kvd.lt
          have kxz := kxd.below hb kxd.lt
          clear hb bw kvd kxd e0 e1 e2 e3 bd
          go_wp2_with fail
          go_roundg (vn - (i + 1))
          case measure => have := HI.out; omega
          case rel => exact ⟨i + 1, q, by have := HI.out; omega, by go_num, by rw [HQS.out], HBN.out, kz, kxz, oz⟩
      subst hys
      cases q with
      | none =>
        have hb5 := best_eq HX.out rfl
        have HBN : Hid (some (⟨y0, yn, yr, yv⟩ : Vt) = bestT (V.take (i + 1)) y0) := by show _ = _; rw [hb5, ← HBT.out]
        have kvd : Blk wr.drew gv 73 #[.int .u64 0, .int .u64 0, .int .u8 0, .string ⟨#[]⟩] := kv
        dsimp only [Option.isSome]
        clear kv hb5
        go_wp2_with fail
        refine region_inv2 (by kernel_rfl) [] [(18, .slice (some ad) vn c7), (19, .int .i64 (i : Int)), (20, .pointer (some (ad.add (i * 4)))), (21, .pointer (some (ad.add (i * 4)))), (22, .int .u64 (y0 : Int)), (23, .int .u64 (y0 : Int)), (24, .bool true), (25, .bool true), (26, .bool false), (27, .bool true), (28, .bool true), (29, undef), (30, undef), (31, undef), (32, undef), (33, undef), (34, undef), (35, undef), (36, undef), (37, .bool true), (38, .bool true)] (by kernel_rfl) (by kernel_rfl) rfl (by kernel_rfl) ?_ ?_ ?_
        · intro q hq; cases hq
        · refine And.intro ?_ ?_
          · intro d hd ρ W hcs bw hn hg
            cases hd
            have e8 : ρ (.tmp 8) = .slice (some ad) vn c7 := hn 8 (by decide)
            clear hn hg
            refine .inl ⟨trivial, ?_⟩
            refine .inl ⟨_, W, rfl, e8, Below.refl _ _⟩
          refine And.intro ?_ ?_
          · intro d hd ρ W hcs bw hn hg
            cases hd
            have e9 : ρ (.tmp 9) = .int .i64 (i : Int) := hn 9 (by decide)
            clear hn hg
            refine .inl ⟨trivial, ?_⟩
            refine .inl ⟨_, W, rfl, e9, Below.refl _ _⟩
          refine And.intro ?_ ?_
          · intro d hd ρ W hcs bw hn hg
            cases hd
            have e18 : ρ (.tmp 18) = .slice (some ad) vn c7 := hn 18 (by decide)
            have e19 : ρ (.tmp 19) = .int .i64 (i : Int) := hn 19 (by decide)
            clear hn hg
            refine .inl ⟨trivial, ?_⟩
            refine .inl ⟨.pointer (some (ad.add (i * 4))), W, ?_, rfl, Below.refl _ _⟩
            go_simp
          refine And.intro ?_ ?_
          · intro d hd ρ W hcs bw hn hg
            cases hd
            have e20 : ρ (.tmp 20) = .pointer (some (ad.add (i * 4))) := hn 20 (by decide)
            clear hn hg
            refine .inl ⟨trivial, ?_⟩
            refine .inl ⟨.pointer (some (ad.add (i * 4))), W, ?_, rfl, Below.refl _ _⟩
            go_simp
          refine And.intro ?_ ?_
          · intro d hd ρ W hcs bw hn hg
            cases hd
            have e21 : ρ (.tmp 21) = .pointer (some (ad.add (i * 4))) := hn 21 (by decide)
            clear hn hg
            refine .inl ⟨trivial, ?_⟩
            have z0 : W.cell? (ad.add (i * 4)) = some (.int .u64 (y0 : Int)) := (bw.cell (cell_lt e0)).trans e0
            refine .inl ⟨.int .u64 (y0 : Int), W, ?_, rfl, Below.refl _ _⟩
            go_simp
          refine And.intro ?_ ?_
          · intro d hd ρ W hcs bw hn hg
            cases hd
            have e1 : ρ (.tmp 1) = .int .u64 (y0 : Int) := hn 1 (by decide)
            clear hn hg
            refine .inl ⟨trivial, ?_⟩
            refine .inl ⟨_, W, rfl, e1, Below.refl _ _⟩
          refine And.intro ?_ ?_
          · intro d hd ρ W hcs bw hn hg
            cases hd
            have e22 : ρ (.tmp 22) = .int .u64 (y0 : Int) := hn 22 (by decide)
            have e23 : ρ (.tmp 23) = .int .u64 (y0 : Int) := hn 23 (by decide)
            clear hn hg
            refine .inl ⟨trivial, ?_⟩
            refine .inl ⟨.bool true, W, ?_, rfl, Below.refl _ _⟩
            go_simp
          refine And.intro ?_ ?_
          · intro d hd ρ W hcs bw hn hg
            cases hd
            have e24 : ρ (.tmp 24) = .bool true := hn 24 (by decide)
            clear hn hg
            refine .inl ⟨trivial, ?_⟩
            refine .inl ⟨_, W, rfl, e24, Below.refl _ _⟩
          refine And.intro ?_ ?_
          · intro d hd ρ W hcs bw hn hg
            cases hd
            have eg : ρ (.tmp 25) = .bool true := hg _ _ _ _ rfl rfl rfl
            have e7 : ρ (.tmp 7) = .bool false := hn 7 (by decide)
            clear hn hg
            refine .inl ⟨⟨_, _, rfl, rfl, eg⟩, ?_⟩
            refine .inl ⟨_, W, rfl, e7, Below.refl _ _⟩
          refine And.intro ?_ ?_
          · intro d hd ρ W hcs bw hn hg
            cases hd
            have eg : ρ (.tmp 25) = .bool true := hg _ _ _ _ rfl rfl rfl
            have e26 : ρ (.tmp 26) = .bool false := hn 26 (by decide)
            clear hn hg
            refine .inl ⟨⟨_, _, rfl, rfl, eg⟩, ?_⟩
            refine .inl ⟨.bool true, W, ?_, rfl, Below.refl _ _⟩
            go_simp
          refine And.intro ?_ ?_
          · intro d hd ρ W hcs bw hn hg
            cases hd
            have eg : ρ (.tmp 25) = .bool true := hg _ _ _ _ rfl rfl rfl
            have e27 : ρ (.tmp 27) = .bool true := hn 27 (by decide)
            clear hn hg
            refine .inl ⟨⟨_, _, rfl, rfl, eg⟩, ?_⟩
            refine .inl ⟨_, W, rfl, e27, Below.refl _ _⟩
          refine And.intro ?_ ?_
          · intro d hd ρ W hcs bw hn hg
            cases hd
            have eg : ρ (.tmp 28) = .bool true := hg _ _ _ _ rfl rfl rfl
            exact .inr ⟨⟨_, _, _, rfl, rfl, eg, nofun⟩, rfl⟩
          refine And.intro ?_ ?_
          · intro d hd ρ W hcs bw hn hg
            cases hd
            have eg : ρ (.tmp 28) = .bool true := hg _ _ _ _ rfl rfl rfl
            exact .inr ⟨⟨_, _, _, rfl, rfl, eg, nofun⟩, rfl⟩
          refine And.intro ?_ ?_
          · intro d hd ρ W hcs bw hn hg
            cases hd
            have eg : ρ (.tmp 28) = .bool true := hg _ _ _ _ rfl rfl rfl
            exact .inr ⟨⟨_, _, _, rfl, rfl, eg, nofun⟩, rfl⟩
          refine And.intro ?_ ?_
          · intro d hd ρ W hcs bw hn hg
            cases hd
            have eg : ρ (.tmp 28) = .bool true := hg _ _ _ _ rfl rfl rfl
            exact .inr ⟨⟨_, _, _, rfl, rfl, eg, nofun⟩, rfl⟩
          refine And.intro ?_ ?_
          · intro d hd ρ W hcs bw hn hg
            cases hd
            have eg : ρ (.tmp 28) = .bool true := hg _ _ _ _ rfl rfl rfl
            exact .inr ⟨⟨_, _, _, rfl, rfl, eg, nofun⟩, rfl⟩
          refine And.intro ?_ ?_
          · intro d hd ρ W hcs bw hn hg
            cases hd
            have eg : ρ (.tmp 28) = .bool true := hg _ _ _ _ rfl rfl rfl
            exact .inr ⟨⟨_, _, _, rfl, rfl, eg, nofun⟩, rfl⟩
          refine And.intro ?_ ?_
          · intro d hd ρ W hcs bw hn hg
            cases hd
            have eg : ρ (.tmp 28) = .bool true := hg _ _ _ _ rfl rfl rfl
            exact .inr ⟨⟨_, _, _, rfl, rfl, eg, nofun⟩, rfl⟩
          refine And.intro ?_ ?_
          · intro d hd ρ W hcs bw hn hg
            cases hd
            have eg : ρ (.tmp 28) = .bool true := hg _ _ _ _ rfl rfl rfl
            exact .inr ⟨⟨_, _, _, rfl, rfl, eg, nofun⟩, rfl⟩
          refine And.intro ?_ ?_
          · intro d hd ρ W hcs bw hn hg
            cases hd
            have eg : ρ (.tmp 25) = .bool true := hg _ _ _ _ rfl rfl rfl
            have e28 : ρ (.tmp 28) = .bool true := hn 28 (by decide)
            have e36 : ρ (.tmp 36) = undef := hn 36 (by decide)
            clear hn hg
            refine .inl ⟨⟨_, _, rfl, rfl, eg⟩, ?_⟩
            have hc1 := hcs.1
            refine .inl ⟨.bool true, W, ?_, rfl, Below.refl _ _⟩
            go_simp
          refine And.intro ?_ ?_
          · intro d hd ρ W hcs bw hn hg
            cases hd
            have e25 : ρ (.tmp 25) = .bool true := hn 25 (by decide)
            have e37 : ρ (.tmp 37) = .bool true := hn 37 (by decide)
            clear hn hg
            refine .inl ⟨trivial, ?_⟩
            have hc1 := hcs.1
            refine .inl ⟨.bool true, W, ?_, rfl, Below.refl _ _⟩
            go_simp
          trivial
        · intro a' w' hsz hdf hb hVs
          have q38 : a'.eval (.tmp 38) = .bool true := hVs 38
          have ha := slot_over_seg 18 21 [] rfl (by kernel_rfl) (of_decide_eq_true (by kernel_rfl)) hsz hdf hVs
          clear hVs hsz hdf
          rw [show List.range' 18 21 = [18, 19, 20, 21, 22, 23, 24, 25, 26, 27, 28, 29, 30, 31, 32, 33, 34, 35, 36, 37, 38] from rfl] at ha
          simp only [List.take_succ_cons, List.take_zero, List.drop_succ_cons, List.drop_zero, List.map_cons, List.map_nil, List.cons_append, List.nil_append, List.foldl_cons, List.foldl_nil, List.set_cons_zero, List.set_cons_succ, q38] at ha
          clear q38
          generalize a'.eval (.tmp 18) = x18 at ha
          generalize a'.eval (.tmp 19) = x19 at ha
          generalize a'.eval (.tmp 20) = x20 at ha
          generalize a'.eval (.tmp 21) = x21 at ha
          generalize a'.eval (.tmp 22) = x22 at ha
          generalize a'.eval (.tmp 23) = x23 at ha
          generalize a'.eval (.tmp 24) = x24 at ha
          generalize a'.eval (.tmp 25) = x25 at ha
          generalize a'.eval (.tmp 26) = x26 at ha
          generalize a'.eval (.tmp 27) = x27 at ha
          generalize a'.eval (.tmp 28) = x28 at ha
          generalize a'.eval (.tmp 29) = x29 at ha
          generalize a'.eval (.tmp 30) = x30 at ha
          generalize a'.eval (.tmp 31) = x31 at ha
          generalize a'.eval (.tmp 32) = x32 at ha
          generalize a'.eval (.tmp 33) = x33 at ha
          generalize a'.eval (.tmp 34) = x34 at ha
          generalize a'.eval (.tmp 35) = x35 at ha
          generalize a'.eval (.tmp 36) = x36 at ha
          generalize a'.eval (.tmp 37) = x37 at ha
          subst ha
          have oz : Outs [gv] w2 w' := HO.out.trans (Outs.of_below ((Below.refl _ wr).drew.trans hb))
          have kz := kvd.below hb kvd.lt
          have kxz := kxd.below hb kxd.lt
          have f0 := (hb.cell (cell_lt e0)).trans e0
          have f1 := (hb.cell (cell_lt e1)).trans e1
          have f2 := (hb.cell (cell_lt e2)).trans e2
          have f3 := (hb.cell (cell_lt e3)).trans e3
          obtain ⟨w3, hst, k3, hg3⟩ := st_vt kz rfl y0 yn yr ⟨yv.toArray⟩
          have o3 := oz.trans (Outs.of_grown hg3 (by simp))
          have kx3 : Blk w3 gx 93 _ := kxz.grown hg3 (fun h => HG.out.2 (Option.some.inj h))
          clear hb bw kvd kxd e0 e1 e2 e3 bd oz kz kxz hg3
          go_wp2_with (refine wpList_store (by rfl) (.tmp 6) (.tmp 42) (by rfl) (by rfl) (by rfl) hst ?_)
          go_roundg (vn - (i + 1))
          case measure => have := HI.out; omega
          case rel => exact ⟨i + 1, some ⟨y0, yn, yr, yv⟩, by have := HI.out; omega, by go_num, rfl, HBN.out, k3, kx3, o3⟩
      | some p =>
        obtain ⟨p0, pn, pr, pv⟩ := p
        have hb5 := best_eq HX.out rfl
        rw [← HBT.out] at hb5
        have kvd : Blk wr.drew gv 73 #[.int .u64 (p0 : Int), .int .u64 (pn : Int), .int .u8 (pr : Int), .string ⟨pv.toArray⟩] := kv
        dsimp only [Option.isSome]
        have HLS := Lib.hid (fun W => rbelow_e ⟨pn, pr⟩ ⟨yn, yr⟩ W)
        unfold bV bC at HLS
        dsimp only at HLS
        clear kv
        cases hls : ltB ⟨pn, pr⟩ ⟨yn, yr⟩
        · have HBN : Hid (some (⟨p0, pn, pr, pv⟩ : Vt) = bestT (V.take (i + 1)) y0) := by show _ = _; rw [hb5]; exact (if_neg (by unfold Vt.b; rw [hls]; decide)).symm
          simp only [hls] at HLS
          clear hb5 hls
          go_wp2_with fail
          refine region_inv2 (by kernel_rfl) [] [(18, .slice (some ad) vn c7), (19, .int .i64 (i : Int)), (20, .pointer (some (ad.add (i * 4)))), (21, .pointer (some (ad.add (i * 4)))), (22, .int .u64 (y0 : Int)), (23, .int .u64 (y0 : Int)), (24, .bool true), (25, .bool true), (26, .bool true), (27, .bool false), (28, .bool false), (29, .pointer (some ⟨gv, 1, none⟩)), (30, .agg #[.int .u64 (pn : Int), .int .u8 (pr : Int)]), (31, .slice (some ad) vn c7), (32, .int .i64 (i : Int)), (33, .pointer (some (ad.add (i * 4)))), (34, .pointer (some { block := (ad.add (i * 4)).block, off := (ad.add (i * 4)).off + 1 })), (35, .agg #[.int .u64 (yn : Int), .int .u8 (yr : Int)]), (36, .bool false), (37, .bool false), (38, .bool false)] (by kernel_rfl) (by kernel_rfl) rfl (by kernel_rfl) ?_ ?_ ?_
          · intro q hq; cases hq
          · refine And.intro ?_ ?_
            · intro d hd ρ W hcs bw hn hg
              cases hd
              have e8 : ρ (.tmp 8) = .slice (some ad) vn c7 := hn 8 (by decide)
              clear hn hg
              refine .inl ⟨trivial, ?_⟩
              refine .inl ⟨_, W, rfl, e8, Below.refl _ _⟩
            refine And.intro ?_ ?_
            · intro d hd ρ W hcs bw hn hg
              cases hd
              have e9 : ρ (.tmp 9) = .int .i64 (i : Int) := hn 9 (by decide)
              clear hn hg
              refine .inl ⟨trivial, ?_⟩
              refine .inl ⟨_, W, rfl, e9, Below.refl _ _⟩
            refine And.intro ?_ ?_
            · intro d hd ρ W hcs bw hn hg
              cases hd
              have e18 : ρ (.tmp 18) = .slice (some ad) vn c7 := hn 18 (by decide)
              have e19 : ρ (.tmp 19) = .int .i64 (i : Int) := hn 19 (by decide)
              clear hn hg
              refine .inl ⟨trivial, ?_⟩
              refine .inl ⟨.pointer (some (ad.add (i * 4))), W, ?_, rfl, Below.refl _ _⟩
              go_simp
            refine And.intro ?_ ?_
            · intro d hd ρ W hcs bw hn hg
              cases hd
              have e20 : ρ (.tmp 20) = .pointer (some (ad.add (i * 4))) := hn 20 (by decide)
              clear hn hg
              refine .inl ⟨trivial, ?_⟩
              refine .inl ⟨.pointer (some (ad.add (i * 4))), W, ?_, rfl, Below.refl _ _⟩
              go_simp
            refine And.intro ?_ ?_
            · intro d hd ρ W hcs bw hn hg
              cases hd
              have e21 : ρ (.tmp 21) = .pointer (some (ad.add (i * 4))) := hn 21 (by decide)
              clear hn hg
              refine .inl ⟨trivial, ?_⟩
              have z0 : W.cell? (ad.add (i * 4)) = some (.int .u64 (y0 : Int)) := (bw.cell (cell_lt e0)).trans e0
              refine .inl ⟨.int .u64 (y0 : Int), W, ?_, rfl, Below.refl _ _⟩
              go_simp
            refine And.intro ?_ ?_
            · intro d hd ρ W hcs bw hn hg
              cases hd
              have e1 : ρ (.tmp 1) = .int .u64 (y0 : Int) := hn 1 (by decide)
              clear hn hg
              refine .inl ⟨trivial, ?_⟩
              refine .inl ⟨_, W, rfl, e1, Below.refl _ _⟩
            refine And.intro ?_ ?_
            · intro d hd ρ W hcs bw hn hg
              cases hd
              have e22 : ρ (.tmp 22) = .int .u64 (y0 : Int) := hn 22 (by decide)
              have e23 : ρ (.tmp 23) = .int .u64 (y0 : Int) := hn 23 (by decide)
              clear hn hg
              refine .inl ⟨trivial, ?_⟩
              refine .inl ⟨.bool true, W, ?_, rfl, Below.refl _ _⟩
              go_simp
            refine And.intro ?_ ?_
            · intro d hd ρ W hcs bw hn hg
              cases hd
              have e24 : ρ (.tmp 24) = .bool true := hn 24 (by decide)
              clear hn hg
              refine .inl ⟨trivial, ?_⟩
              refine .inl ⟨_, W, rfl, e24, Below.refl _ _⟩
            refine And.intro ?_ ?_
            · intro d hd ρ W hcs bw hn hg
              cases hd
              have eg : ρ (.tmp 25) = .bool true := hg _ _ _ _ rfl rfl rfl
              have e7 : ρ (.tmp 7) = .bool true := hn 7 (by decide)
              clear hn hg
              refine .inl ⟨⟨_, _, rfl, rfl, eg⟩, ?_⟩
              refine .inl ⟨_, W, rfl, e7, Below.refl _ _⟩
            refine And.intro ?_ ?_
            · intro d hd ρ W hcs bw hn hg
              cases hd
              have eg : ρ (.tmp 25) = .bool true := hg _ _ _ _ rfl rfl rfl
              have e26 : ρ (.tmp 26) = .bool true := hn 26 (by decide)
              clear hn hg
              refine .inl ⟨⟨_, _, rfl, rfl, eg⟩, ?_⟩
              refine .inl ⟨.bool false, W, ?_, rfl, Below.refl _ _⟩
              go_simp
            refine And.intro ?_ ?_
            · intro d hd ρ W hcs bw hn hg
              cases hd
              have eg : ρ (.tmp 25) = .bool true := hg _ _ _ _ rfl rfl rfl
              have e27 : ρ (.tmp 27) = .bool false := hn 27 (by decide)
              clear hn hg
              refine .inl ⟨⟨_, _, rfl, rfl, eg⟩, ?_⟩
              refine .inl ⟨_, W, rfl, e27, Below.refl _ _⟩
            refine And.intro ?_ ?_
            · intro d hd ρ W hcs bw hn hg
              cases hd
              have eg : ρ (.tmp 28) = .bool false := hg _ _ _ _ rfl rfl rfl
              have e6 : ρ (.tmp 6) = .pointer (some ⟨gv, 0, none⟩) := hn 6 (by decide)
              clear hn hg
              refine .inl ⟨⟨_, _, rfl, rfl, eg⟩, ?_⟩
              refine .inl ⟨.pointer (some ⟨gv, 1, none⟩), W, ?_, rfl, Below.refl _ _⟩
              go_simp
            refine And.intro ?_ ?_
            · intro d hd ρ W hcs bw hn hg
              cases hd
              have eg : ρ (.tmp 28) = .bool false := hg _ _ _ _ rfl rfl rfl
              have e29 : ρ (.tmp 29) = .pointer (some ⟨gv, 1, none⟩) := hn 29 (by decide)
              clear hn hg
              refine .inl ⟨⟨_, _, rfl, rfl, eg⟩, ?_⟩
              have z0 : W.cell? ⟨gv, 1, none⟩ = some (.int .u64 (pn : Int)) := (Blk.below kvd bw (Blk.lt kvd)).cell 1
              have z1 : W.cell? ⟨gv, 2, none⟩ = some (.int .u8 (pr : Int)) := (Blk.below kvd bw (Blk.lt kvd)).cell 2
              refine .inl ⟨.agg #[.int .u64 (pn : Int), .int .u8 (pr : Int)], W, ?_, rfl, Below.refl _ _⟩
              go_simp
            refine And.intro ?_ ?_
            · intro d hd ρ W hcs bw hn hg
              cases hd
              have eg : ρ (.tmp 28) = .bool false := hg _ _ _ _ rfl rfl rfl
              have e8 : ρ (.tmp 8) = .slice (some ad) vn c7 := hn 8 (by decide)
              clear hn hg
              refine .inl ⟨⟨_, _, rfl, rfl, eg⟩, ?_⟩
              refine .inl ⟨_, W, rfl, e8, Below.refl _ _⟩
            refine And.intro ?_ ?_
            · intro d hd ρ W hcs bw hn hg
              cases hd
              have eg : ρ (.tmp 28) = .bool false := hg _ _ _ _ rfl rfl rfl
              have e9 : ρ (.tmp 9) = .int .i64 (i : Int) := hn 9 (by decide)
              clear hn hg
              refine .inl ⟨⟨_, _, rfl, rfl, eg⟩, ?_⟩
              refine .inl ⟨_, W, rfl, e9, Below.refl _ _⟩
            refine And.intro ?_ ?_
            · intro d hd ρ W hcs bw hn hg
              cases hd
              have eg : ρ (.tmp 28) = .bool false := hg _ _ _ _ rfl rfl rfl
              have e31 : ρ (.tmp 31) = .slice (some ad) vn c7 := hn 31 (by decide)
              have e32 : ρ (.tmp 32) = .int .i64 (i : Int) := hn 32 (by decide)
              clear hn hg
              refine .inl ⟨⟨_, _, rfl, rfl, eg⟩, ?_⟩
              refine .inl ⟨.pointer (some (ad.add (i * 4))), W, ?_, rfl, Below.refl _ _⟩
              go_simp
            refine And.intro ?_ ?_
            · intro d hd ρ W hcs bw hn hg
              cases hd
              have eg : ρ (.tmp 28) = .bool false := hg _ _ _ _ rfl rfl rfl
              have e33 : ρ (.tmp 33) = .pointer (some (ad.add (i * 4))) := hn 33 (by decide)
              clear hn hg
              refine .inl ⟨⟨_, _, rfl, rfl, eg⟩, ?_⟩
              refine .inl ⟨.pointer (some { block := (ad.add (i * 4)).block, off := (ad.add (i * 4)).off + 1 }), W, ?_, rfl, Below.refl _ _⟩
              go_simp
            refine And.intro ?_ ?_
            · intro d hd ρ W hcs bw hn hg
              cases hd
              have eg : ρ (.tmp 28) = .bool false := hg _ _ _ _ rfl rfl rfl
              have e34 : ρ (.tmp 34) = .pointer (some { block := (ad.add (i * 4)).block, off := (ad.add (i * 4)).off + 1 }) := hn 34 (by decide)
              clear hn hg
              refine .inl ⟨⟨_, _, rfl, rfl, eg⟩, ?_⟩
              have z0 : W.cell? { block := (ad.add (i * 4)).block, off := (ad.add (i * 4)).off + 1 } = some (.int .u64 (yn : Int)) := (bw.cell (cell_lt e1)).trans e1
              have z1 : W.cell? { block := (ad.add (i * 4)).block, off := (ad.add (i * 4)).off + 2 } = some (.int .u8 (yr : Int)) := (bw.cell (cell_lt e2)).trans e2
              refine .inl ⟨.agg #[.int .u64 (yn : Int), .int .u8 (yr : Int)], W, ?_, rfl, Below.refl _ _⟩
              go_simp
            refine And.intro ?_ ?_
            · intro d hd ρ W hcs bw hn hg
              cases hd
              have eg : ρ (.tmp 28) = .bool false := hg _ _ _ _ rfl rfl rfl
              have e30 : ρ (.tmp 30) = .agg #[.int .u64 (pn : Int), .int .u8 (pr : Int)] := hn 30 (by decide)
              have e35 : ρ (.tmp 35) = .agg #[.int .u64 (yn : Int), .int .u8 (yr : Int)] := hn 35 (by decide)
              clear hn hg
              refine .inl ⟨⟨_, _, rfl, rfl, eg⟩, ?_⟩
              have ef : ρ (.func 87) = .func (.func 87) #[] #[] := hcs.2 _
              refine .inr ⟨87, #[.agg #[.int .u64 (pn : Int), .int .u8 (pr : Int)], .agg #[.int .u64 (yn : Int), .int .u8 (yr : Int)]], ?_, (HLS.out W).mono ?_⟩
              · go_simp
              · rintro e w2 ⟨rfl, B2⟩; exact ⟨_, rfl, rfl, B2⟩
            refine And.intro ?_ ?_
            · intro d hd ρ W hcs bw hn hg
              cases hd
              have eg : ρ (.tmp 25) = .bool true := hg _ _ _ _ rfl rfl rfl
              have e28 : ρ (.tmp 28) = .bool false := hn 28 (by decide)
              have e36 : ρ (.tmp 36) = .bool false := hn 36 (by decide)
              clear hn hg
              refine .inl ⟨⟨_, _, rfl, rfl, eg⟩, ?_⟩
              have hc1 := hcs.1
              refine .inl ⟨.bool false, W, ?_, rfl, Below.refl _ _⟩
              go_simp
            refine And.intro ?_ ?_
            · intro d hd ρ W hcs bw hn hg
              cases hd
              have e25 : ρ (.tmp 25) = .bool true := hn 25 (by decide)
              have e37 : ρ (.tmp 37) = .bool false := hn 37 (by decide)
              clear hn hg
              refine .inl ⟨trivial, ?_⟩
              have hc1 := hcs.1
              refine .inl ⟨.bool false, W, ?_, rfl, Below.refl _ _⟩
              go_simp
            trivial
          · intro a' w' hsz hdf hb hVs
            have q38 : a'.eval (.tmp 38) = .bool false := hVs 38
            have ha := slot_over_seg 18 21 [] rfl (by kernel_rfl) (of_decide_eq_true (by kernel_rfl)) hsz hdf hVs
            clear hVs hsz hdf
            rw [show List.range' 18 21 = [18, 19, 20, 21, 22, 23, 24, 25, 26, 27, 28, 29, 30, 31, 32, 33, 34, 35, 36, 37, 38] from rfl] at ha
            simp only [List.take_succ_cons, List.take_zero, List.drop_succ_cons, List.drop_zero, List.map_cons, List.map_nil, List.cons_append, List.nil_append, List.foldl_cons, List.foldl_nil, List.set_cons_zero, List.set_cons_succ, q38] at ha
            clear q38
            generalize a'.eval (.tmp 18) = x18 at ha
            generalize a'.eval (.tmp 19) = x19 at ha
            generalize a'.eval (.tmp 20) = x20 at ha
            generalize a'.eval (.tmp 21) = x21 at ha
            generalize a'.eval (.tmp 22) = x22 at ha
            generalize a'.eval (.tmp 23) = x23 at ha
            generalize a'.eval (.tmp 24) = x24 at ha
            generalize a'.eval (.tmp 25) = x25 at ha
            generalize a'.eval (.tmp 26) = x26 at ha
            generalize a'.eval (.tmp 27) = x27 at ha
            generalize a'.eval (.tmp 28) = x28 at ha
            generalize a'.eval (.tmp 29) = x29 at ha
            generalize a'.eval (.tmp 30) = x30 at ha
            generalize a'.eval (.tmp 31) = x31 at ha
            generalize a'.eval (.tmp 32) = x32 at ha
            generalize a'.eval (.tmp 33) = x33 at ha
            generalize a'.eval (.tmp 34) = x34 at ha
            generalize a'.eval (.tmp 35) = x35 at ha
            generalize a'.eval (.tmp 36) = x36 at ha
            generalize a'.eval (.tmp 37) = x37 at ha
            subst ha
            have oz : Outs [gv] w2 w' := HO.out.trans (Outs.of_below ((Below.refl _ wr).drew.trans hb))
            have kz := kvd.below hb kvd.lt
            have kxz := kxd.below hb kxd.lt
            clear hb bw kvd kxd e0 e1 e2 e3 bd
            go_wp2_with fail
            go_roundg (vn - (i + 1))
            case measure => have := HI.out; omega
            case rel => exact ⟨i + 1, some ⟨p0, pn, pr, pv⟩, by have := HI.out; omega, by go_num, rfl, HBN.out, kz, kxz, oz⟩
        · have HBN : Hid (some (⟨y0, yn, yr, yv⟩ : Vt) = bestT (V.take (i + 1)) y0) := by show _ = _; rw [hb5]; exact (if_pos (by unfold Vt.b; rw [hls])).symm
          simp only [hls] at HLS
          clear hb5 hls
          go_wp2_with fail
          refine region_inv2 (by kernel_rfl) [] [(18, .slice (some ad) vn c7), (19, .int .i64 (i : Int)), (20, .pointer (some (ad.add (i * 4)))), (21, .pointer (some (ad.add (i * 4)))), (22, .int .u64 (y0 : Int)), (23, .int .u64 (y0 : Int)), (24, .bool true), (25, .bool true), (26, .bool true), (27, .bool false), (28, .bool false), (29, .pointer (some ⟨gv, 1, none⟩)), (30, .agg #[.int .u64 (pn : Int), .int .u8 (pr : Int)]), (31, .slice (some ad) vn c7), (32, .int .i64 (i : Int)), (33, .pointer (some (ad.add (i * 4)))), (34, .pointer (some { block := (ad.add (i * 4)).block, off := (ad.add (i * 4)).off + 1 })), (35, .agg #[.int .u64 (yn : Int), .int .u8 (yr : Int)]), (36, .bool true), (37, .bool true), (38, .bool true)] (by kernel_rfl) (by kernel_rfl) rfl (by kernel_rfl) ?_ ?_ ?_
          · intro q hq; cases hq
          · refine And.intro ?_ ?_
            · intro d hd ρ W hcs bw hn hg
              cases hd
              have e8 : ρ (.tmp 8) = .slice (some ad) vn c7 := hn 8 (by decide)
              clear hn hg
              refine .inl ⟨trivial, ?_⟩
              refine .inl ⟨_, W, rfl, e8, Below.refl _ _⟩
            refine And.intro ?_ ?_
            · intro d hd ρ W hcs bw hn hg
              cases hd
              have e9 : ρ (.tmp 9) = .int .i64 (i : Int) := hn 9 (by decide)
              clear hn hg
              refine .inl ⟨trivial, ?_⟩
              refine .inl ⟨_, W, rfl, e9, Below.refl _ _⟩
            refine And.intro ?_ ?_
            · intro d hd ρ W hcs bw hn hg
              cases hd
              have e18 : ρ (.tmp 18) = .slice (some ad) vn c7 := hn 18 (by decide)
              have e19 : ρ (.tmp 19) = .int .i64 (i : Int) := hn 19 (by decide)
              clear hn hg
              refine .inl ⟨trivial, ?_⟩
              refine .inl ⟨.pointer (some (ad.add (i * 4))), W, ?_, rfl, Below.refl _ _⟩
              go_simp
            refine And.intro ?_ ?_
            · intro d hd ρ W hcs bw hn hg
              cases hd
              have e20 : ρ (.tmp 20) = .pointer (some (ad.add (i * 4))) := hn 20 (by decide)
              clear hn hg
              refine .inl ⟨trivial, ?_⟩
              refine .inl ⟨.pointer (some (ad.add (i * 4))), W, ?_, rfl, Below.refl _ _⟩
              go_simp
            refine And.intro ?_ ?_
            · intro d hd ρ W hcs bw hn hg
              cases hd
              have e21 : ρ (.tmp 21) = .pointer (some (ad.add (i * 4))) := hn 21 (by decide)
              clear hn hg
              refine .inl ⟨trivial, ?_⟩
              have z0 : W.cell? (ad.add (i * 4)) = some (.int .u64 (y0 : Int)) := (bw.cell (cell_lt e0)).trans e0
              refine .inl ⟨.int .u64 (y0 : Int), W, ?_, rfl, Below.refl _ _⟩
              go_simp
            refine And.intro ?_ ?_
            · intro d hd ρ W hcs bw hn hg
              cases hd
              have e1 : ρ (.tmp 1) = .int .u64 (y0 : Int) := hn 1 (by decide)
              clear hn hg
              refine .inl ⟨trivial, ?_⟩
              refine .inl ⟨_, W, rfl, e1, Below.refl _ _⟩
            refine And.intro ?_ ?_
            · intro d hd ρ W hcs bw hn hg
              cases hd
              have e22 : ρ (.tmp 22) = .int .u64 (y0 : Int) := hn 22 (by decide)
              have e23 : ρ (.tmp 23) = .int .u64 (y0 : Int) := hn 23 (by decide)
              clear hn hg
              refine .inl ⟨trivial, ?_⟩
              refine .inl ⟨.bool true, W, ?_, rfl, Below.refl _ _⟩
              go_simp
            refine And.intro ?_ ?_
            · intro d hd ρ W hcs bw hn hg
              cases hd
              have e24 : ρ (.tmp 24) = .bool true := hn 24 (by decide)
              clear hn hg
              refine .inl ⟨trivial, ?_⟩
              refine .inl ⟨_, W, rfl, e24, Below.refl _ _⟩
            refine And.intro ?_ ?_
            · intro d hd ρ W hcs bw hn hg
              cases hd
              have eg : ρ (.tmp 25) = .bool true := hg _ _ _ _ rfl rfl rfl
              have e7 : ρ (.tmp 7) = .bool true := hn 7 (by decide)
              clear hn hg
              refine .inl ⟨⟨_, _, rfl, rfl, eg⟩, ?_⟩
              refine .inl ⟨_, W, rfl, e7, Below.refl _ _⟩
            refine And.intro ?_ ?_
            · intro d hd ρ W hcs bw hn hg
              cases hd
              have eg : ρ (.tmp 25) = .bool true := hg _ _ _ _ rfl rfl rfl
              have e26 : ρ (.tmp 26) = .bool true := hn 26 (by decide)
              clear hn hg
              refine .inl ⟨⟨_, _, rfl, rfl, eg⟩, ?_⟩
              refine .inl ⟨.bool false, W, ?_, rfl, Below.refl _ _⟩
              go_simp
            refine And.intro ?_ ?_
            · intro d hd ρ W hcs bw hn hg
              cases hd
              have eg : ρ (.tmp 25) = .bool true := hg _ _ _ _ rfl rfl rfl
              have e27 : ρ (.tmp 27) = .bool false := hn 27 (by decide)
              clear hn hg
              refine .inl ⟨⟨_, _, rfl, rfl, eg⟩, ?_⟩
              refine .inl ⟨_, W, rfl, e27, Below.refl _ _⟩
            refine And.intro ?_ ?_
            · intro d hd ρ W hcs bw hn hg
              cases hd
              have eg : ρ (.tmp 28) = .bool false := hg _ _ _ _ rfl rfl rfl
              have e6 : ρ (.tmp 6) = .pointer (some ⟨gv, 0, none⟩) := hn 6 (by decide)
              clear hn hg
              refine .inl ⟨⟨_, _, rfl, rfl, eg⟩, ?_⟩
              refine .inl ⟨.pointer (some ⟨gv, 1, none⟩), W, ?_, rfl, Below.refl _ _⟩
              go_simp
            refine And.intro ?_ ?_
            · intro d hd ρ W hcs bw hn hg
              cases hd
              have eg : ρ (.tmp 28) = .bool false := hg _ _ _ _ rfl rfl rfl
              have e29 : ρ (.tmp 29) = .pointer (some ⟨gv, 1, none⟩) := hn 29 (by decide)
              clear hn hg
              refine .inl ⟨⟨_, _, rfl, rfl, eg⟩, ?_⟩
              have z0 : W.cell? ⟨gv, 1, none⟩ = some (.int .u64 (pn : Int)) := (Blk.below kvd bw (Blk.lt kvd)).cell 1
              have z1 : W.cell? ⟨gv, 2, none⟩ = some (.int .u8 (pr : Int)) := (Blk.below kvd bw (Blk.lt kvd)).cell 2
              refine .inl ⟨.agg #[.int .u64 (pn : Int), .int .u8 (pr : Int)], W, ?_, rfl, Below.refl _ _⟩
              go_simp
            refine And.intro ?_ ?_
            · intro d hd ρ W hcs bw hn hg
              cases hd
              have eg : ρ (.tmp 28) = .bool false := hg _ _ _ _ rfl rfl rfl
              have e8 : ρ (.tmp 8) = .slice (some ad) vn c7 := hn 8 (by decide)
              clear hn hg
              refine .inl ⟨⟨_, _, rfl, rfl, eg⟩, ?_⟩
              refine .inl ⟨_, W, rfl, e8, Below.refl _ _⟩
            refine And.intro ?_ ?_
            · intro d hd ρ W hcs bw hn hg
              cases hd
              have eg : ρ (.tmp 28) = .bool false := hg _ _ _ _ rfl rfl rfl
              have e9 : ρ (.tmp 9) = .int .i64 (i : Int) := hn 9 (by decide)
              clear hn hg
              refine .inl ⟨⟨_, _, rfl, rfl, eg⟩, ?_⟩
              refine .inl ⟨_, W, rfl, e9, Below.refl _ _⟩
            refine And.intro ?_ ?_
            · intro d hd ρ W hcs bw hn hg
              cases hd
              have eg : ρ (.tmp 28) = .bool false := hg _ _ _ _ rfl rfl rfl
              have e31 : ρ (.tmp 31) = .slice (some ad) vn c7 := hn 31 (by decide)
              have e32 : ρ (.tmp 32) = .int .i64 (i : Int) := hn 32 (by decide)
              clear hn hg
              refine .inl ⟨⟨_, _, rfl, rfl, eg⟩, ?_⟩
              refine .inl ⟨.pointer (some (ad.add (i * 4))), W, ?_, rfl, Below.refl _ _⟩
              go_simp
            refine And.intro ?_ ?_
            · intro d hd ρ W hcs bw hn hg
              cases hd
              have eg : ρ (.tmp 28) = .bool false := hg _ _ _ _ rfl rfl rfl
              have e33 : ρ (.tmp 33) = .pointer (some (ad.add (i * 4))) := hn 33 (by decide)
              clear hn hg
              refine .inl ⟨⟨_, _, rfl, rfl, eg⟩, ?_⟩
              refine .inl ⟨.pointer (some { block := (ad.add (i * 4)).block, off := (ad.add (i * 4)).off + 1 }), W, ?_, rfl, Below.refl _ _⟩
              go_simp
            refine And.intro ?_ ?_
            · intro d hd ρ W hcs bw hn hg
              cases hd
              have eg : ρ (.tmp 28) = .bool false := hg _ _ _ _ rfl rfl rfl
              have e34 : ρ (.tmp 34) = .pointer (some { block := (ad.add (i * 4)).block, off := (ad.add (i * 4)).off + 1 }) := hn 34 (by decide)
              clear hn hg
              refine .inl ⟨⟨_, _, rfl, rfl, eg⟩, ?_⟩
              have z0 : W.cell? { block := (ad.add (i * 4)).block, off := (ad.add (i * 4)).off + 1 } = some (.int .u64 (yn : Int)) := (bw.cell (cell_lt e1)).trans e1
              have z1 : W.cell? { block := (ad.add (i * 4)).block, off := (ad.add (i * 4)).off + 2 } = some (.int .u8 (yr : Int)) := (bw.cell (cell_lt e2)).trans e2
              refine .inl ⟨.agg #[.int .u64 (yn : Int), .int .u8 (yr : Int)], W, ?_, rfl, Below.refl _ _⟩
              go_simp
            refine And.intro ?_ ?_
            · intro d hd ρ W hcs bw hn hg
              cases hd
              have eg : ρ (.tmp 28) = .bool false := hg _ _ _ _ rfl rfl rfl
              have e30 : ρ (.tmp 30) = .agg #[.int .u64 (pn : Int), .int .u8 (pr : Int)] := hn 30 (by decide)
              have e35 : ρ (.tmp 35) = .agg #[.int .u64 (yn : Int), .int .u8 (yr : Int)] := hn 35 (by decide)
              clear hn hg
              refine .inl ⟨⟨_, _, rfl, rfl, eg⟩, ?_⟩
              have ef : ρ (.func 87) = .func (.func 87) #[] #[] := hcs.2 _
              refine .inr ⟨87, #[.agg #[.int .u64 (pn : Int), .int .u8 (pr : Int)], .agg #[.int .u64 (yn : Int), .int .u8 (yr : Int)]], ?_, (HLS.out W).mono ?_⟩
              · go_simp
              · rintro e w2 ⟨rfl, B2⟩; exact ⟨_, rfl, rfl, B2⟩
            refine And.intro ?_ ?_
            · intro d hd ρ W hcs bw hn hg
              cases hd
              have eg : ρ (.tmp 25) = .bool true := hg _ _ _ _ rfl rfl rfl
              have e28 : ρ (.tmp 28) = .bool false := hn 28 (by decide)
              have e36 : ρ (.tmp 36) = .bool true := hn 36 (by decide)
              clear hn hg
              refine .inl ⟨⟨_, _, rfl, rfl, eg⟩, ?_⟩
              have hc1 := hcs.1
              refine .inl ⟨.bool true, W, ?_, rfl, Below.refl _ _⟩
              go_simp
            refine And.intro ?_ ?_
            · intro d hd ρ W hcs bw hn hg
              cases hd
              have e25 : ρ (.tmp 25) = .bool true := hn 25 (by decide)
              have e37 : ρ (.tmp 37) = .bool true := hn 37 (by decide)
              clear hn hg
              refine .inl ⟨trivial, ?_⟩
              have hc1 := hcs.1
              refine .inl ⟨.bool true, W, ?_, rfl, Below.refl _ _⟩
              go_simp
            trivial
          · intro a' w' hsz hdf hb hVs
            have q38 : a'.eval (.tmp 38) = .bool true := hVs 38
            have ha := slot_over_seg 18 21 [] rfl (by kernel_rfl) (of_decide_eq_true (by kernel_rfl)) hsz hdf hVs
            clear hVs hsz hdf
            rw [show List.range' 18 21 = [18, 19, 20, 21, 22, 23, 24, 25, 26, 27, 28, 29, 30, 31, 32, 33, 34, 35, 36, 37, 38] from rfl] at ha
            simp only [List.take_succ_cons, List.take_zero, List.drop_succ_cons, List.drop_zero, List.map_cons, List.map_nil, List.cons_append, List.nil_append, List.foldl_cons, List.foldl_nil, List.set_cons_zero, List.set_cons_succ, q38] at ha
            clear q38
            generalize a'.eval (.tmp 18) = x18 at ha
            generalize a'.eval (.tmp 19) = x19 at ha
            generalize a'.eval (.tmp 20) = x20 at ha
            generalize a'.eval (.tmp 21) = x21 at ha
            generalize a'.eval (.tmp 22) = x22 at ha
            generalize a'.eval (.tmp 23) = x23 at ha
            generalize a'.eval (.tmp 24) = x24 at ha
            generalize a'.eval (.tmp 25) = x25 at ha
            generalize a'.eval (.tmp 26) = x26 at ha
            generalize a'.eval (.tmp 27) = x27 at ha
            generalize a'.eval (.tmp 28) = x28 at ha
            generalize a'.eval (.tmp 29) = x29 at ha
            generalize a'.eval (.tmp 30) = x30 at ha
            generalize a'.eval (.tmp 31) = x31 at ha
            generalize a'.eval (.tmp 32) = x32 at ha
            generalize a'.eval (.tmp 33) = x33 at ha
            generalize a'.eval (.tmp 34) = x34 at ha
            generalize a'.eval (.tmp 35) = x35 at ha
            generalize a'.eval (.tmp 36) = x36 at ha
            generalize a'.eval (.tmp 37) = x37 at ha
            subst ha
            have oz : Outs [gv] w2 w' := HO.out.trans (Outs.of_below ((Below.refl _ wr).drew.trans hb))
            have kz := kvd.below hb kvd.lt
            have kxz := kxd.below hb kxd.lt
            have f0 := (hb.cell (cell_lt e0)).trans e0
            have f1 := (hb.cell (cell_lt e1)).trans e1
            have f2 := (hb.cell (cell_lt e2)).trans e2
            have f3 := (hb.cell (cell_lt e3)).trans e3
            obtain ⟨w3, hst, k3, hg3⟩ := st_vt kz rfl y0 yn yr ⟨yv.toArray⟩
            have o3 := oz.trans (Outs.of_grown hg3 (by simp))
            have kx3 : Blk w3 gx 93 _ := kxz.grown hg3 (fun h => HG.out.2 (Option.some.inj h))
            clear hb bw kvd kxd e0 e1 e2 e3 bd oz kz kxz hg3
            go_wp2_with (refine wpList_store (by rfl) (.tmp 6) (.tmp 42) (by rfl) (by rfl) (by rfl) hst ?_)
            go_roundg (vn - (i + 1))
            case measure => have := HI.out; omega
            case rel => exact ⟨i + 1, some ⟨y0, yn, yr, yv⟩, by have := HI.out; omega, by go_num, rfl, HBN.out, k3, kx3, o3⟩
    · have hk4 : ¬ (i : Int) < (vn : Int) := by omega
      obtain rfl : vn = i := by omega
      have hbt := HBT.out
      rw [List.take_of_length_le (by rw [← HVN.out]; exact Nat.le_refl _)] at hbt
      have HV2 := HVV.out
      rw [← hbt] at HV2
      have HV2 := Lib.hid HV2
      have kxd : Blk wr.drew gx 93 #[.int .u64 (bn : Int), .int .u8 (br : Int), .slice A k cp] := kx
      clear hbt HBT h4 hi kx oo
      cases q with
      | some p =>
        obtain ⟨p0, pn, pr, pv⟩ := p
        have kvd : Blk wr.drew gv 73 #[.int .u64 (p0 : Int), .int .u64 (pn : Int), .int .u8 (pr : Int), .string ⟨pv.toArray⟩] := kv
        dsimp only [Option.isSome]
        clear kv
        go_wp2_with fail
        have bwq := bw.drew
        refine region_inv2 (by kernel_rfl) [] [(43, .pointer (some ⟨gv, 3, none⟩)), (44, .string ⟨pv.toArray⟩), (45, .bool true), (46, .bool true), (47, undef), (48, undef), (49, undef), (50, undef), (51, .bool true), (4, .string ⟨pv.toArray⟩), (5, .bool true)] (by kernel_rfl) (by kernel_rfl) rfl (by kernel_rfl) ?_ ?_ ?_
        · intro q hq; cases hq
        · refine And.intro ?_ ?_
          · intro d hd ρ W hcs bw hn hg
            cases hd
            have e6 : ρ (.tmp 6) = .pointer (some ⟨gv, 0, none⟩) := hn 6 (by decide)
            clear hn hg
            refine .inl ⟨trivial, ?_⟩
            refine .inl ⟨.pointer (some ⟨gv, 3, none⟩), W, ?_, rfl, Below.refl _ _⟩
            go_simp
          refine And.intro ?_ ?_
          · intro d hd ρ W hcs bw hn hg
            cases hd
            have e43 : ρ (.tmp 43) = .pointer (some ⟨gv, 3, none⟩) := hn 43 (by decide)
            clear hn hg
            refine .inl ⟨trivial, ?_⟩
            have z0 : W.cell? ⟨gv, 3, none⟩ = some (.string ⟨pv.toArray⟩) := (Blk.below kvd bw (Blk.lt kvd)).cell 3
            refine .inl ⟨.string ⟨pv.toArray⟩, W, ?_, rfl, Below.refl _ _⟩
            go_simp
          refine And.intro ?_ ?_
          · intro d hd ρ W hcs bw hn hg
            cases hd
            have e7 : ρ (.tmp 7) = .bool true := hn 7 (by decide)
            clear hn hg
            refine .inl ⟨trivial, ?_⟩
            refine .inl ⟨_, W, rfl, e7, Below.refl _ _⟩
          refine And.intro ?_ ?_
          · intro d hd ρ W hcs bw hn hg
            cases hd
            have e45 : ρ (.tmp 45) = .bool true := hn 45 (by decide)
            clear hn hg
            refine .inl ⟨trivial, ?_⟩
            refine .inl ⟨_, W, rfl, e45, Below.refl _ _⟩
          refine And.intro ?_ ?_
          · intro d hd ρ W hcs bw hn hg
            cases hd
            have eg : ρ (.tmp 46) = .bool true := hg _ _ _ _ rfl rfl rfl
            exact .inr ⟨⟨_, _, _, rfl, rfl, eg, nofun⟩, rfl⟩
          refine And.intro ?_ ?_
          · intro d hd ρ W hcs bw hn hg
            cases hd
            have eg : ρ (.tmp 46) = .bool true := hg _ _ _ _ rfl rfl rfl
            exact .inr ⟨⟨_, _, _, rfl, rfl, eg, nofun⟩, rfl⟩
          refine And.intro ?_ ?_
          · intro d hd ρ W hcs bw hn hg
            cases hd
            have eg : ρ (.tmp 46) = .bool true := hg _ _ _ _ rfl rfl rfl
            exact .inr ⟨⟨_, _, _, rfl, rfl, eg, nofun⟩, rfl⟩
          refine And.intro ?_ ?_
          · intro d hd ρ W hcs bw hn hg
            cases hd
            have eg : ρ (.tmp 46) = .bool true := hg _ _ _ _ rfl rfl rfl
            exact .inr ⟨⟨_, _, _, rfl, rfl, eg, nofun⟩, rfl⟩
          refine And.intro ?_ ?_
          · intro d hd ρ W hcs bw hn hg
            cases hd
            have e46 : ρ (.tmp 46) = .bool true := hn 46 (by decide)
            have e50 : ρ (.tmp 50) = undef := hn 50 (by decide)
            clear hn hg
            refine .inl ⟨trivial, ?_⟩
            have hc1 := hcs.1
            refine .inl ⟨.bool true, W, ?_, rfl, Below.refl _ _⟩
            go_simp
          refine And.intro ?_ ?_
          · intro d hd ρ W hcs bw hn hg
            cases hd
            have e44 : ρ (.tmp 44) = .string ⟨pv.toArray⟩ := hn 44 (by decide)
            clear hn hg
            refine .inl ⟨trivial, ?_⟩
            refine .inl ⟨_, W, rfl, e44, Below.refl _ _⟩
          refine And.intro ?_ ?_
          · intro d hd ρ W hcs bw hn hg
            cases hd
            have e51 : ρ (.tmp 51) = .bool true := hn 51 (by decide)
            clear hn hg
            refine .inl ⟨trivial, ?_⟩
            refine .inl ⟨_, W, rfl, e51, Below.refl _ _⟩
          trivial
        · intro a' w' hsz hdf hb hVs
          have q4 : a'.eval (.tmp 4) = .string ⟨pv.toArray⟩ := hVs 4
          have q5 : a'.eval (.tmp 5) = .bool true := hVs 5
          have ha := slot_over_seg 43 9 [4, 5] rfl (by kernel_rfl) (of_decide_eq_true (by kernel_rfl)) hsz hdf hVs
          clear hVs hsz hdf
          rw [show List.range' 43 9 = [43, 44, 45, 46, 47, 48, 49, 50, 51] from rfl] at ha
          simp only [List.take_succ_cons, List.take_zero, List.drop_succ_cons, List.drop_zero, List.map_cons, List.map_nil, List.cons_append, List.nil_append, List.foldl_cons, List.foldl_nil, List.set_cons_zero, List.set_cons_succ, q4, q5] at ha
          clear q4 q5
          generalize a'.eval (.tmp 43) = x43 at ha
          generalize a'.eval (.tmp 44) = x44 at ha
          generalize a'.eval (.tmp 45) = x45 at ha
          generalize a'.eval (.tmp 46) = x46 at ha
          generalize a'.eval (.tmp 47) = x47 at ha
          generalize a'.eval (.tmp 48) = x48 at ha
          generalize a'.eval (.tmp 49) = x49 at ha
          generalize a'.eval (.tmp 50) = x50 at ha
          generalize a'.eval (.tmp 51) = x51 at ha
          subst ha
          have bz := bw.drew.trans (hb.mono bw.drew.size)
          clear hb bw kxd kvd
          go_wp2_with fail
          exact bodyPost_ret (v := .tuple #[.string ⟨pv.toArray⟩, .bool true]) (by simp [results, Try.results67]) rfl ⟨by rw [HV2.out.1, HV2.out.2]; rfl, bz⟩
      | none =>
        have kvd : Blk wr.drew gv 73 #[.int .u64 0, .int .u64 0, .int .u8 0, .string ⟨#[]⟩] := kv
        dsimp only [Option.isSome]
        clear kv
        by_cases hsl : slot < la
        · have hsi : (slot : Int) < (la : Int) := by omega
          have hde := decide_eq_true hsl
          go_wp2_with fail
          have bwq := bw.drew
          refine region_inv2 (by kernel_rfl) [] [(43, .pointer (some ⟨gv, 3, none⟩)), (44, .string ⟨#[]⟩), (45, .bool false), (46, .bool false), (47, .int .u64 (slot : Int)), (48, .agg #[.int .u64 (bn : Int), .int .u8 (br : Int), .slice A k cp]), (49, .int .u64 (la : Int)), (50, .bool true), (51, .bool true), (4, .string ⟨#[]⟩), (5, .bool true)] (by kernel_rfl) (by kernel_rfl) rfl (by kernel_rfl) ?_ ?_ ?_
          · intro q hq; cases hq
          · refine And.intro ?_ ?_
            · intro d hd ρ W hcs bw hn hg
              cases hd
              have e6 : ρ (.tmp 6) = .pointer (some ⟨gv, 0, none⟩) := hn 6 (by decide)
              clear hn hg
              refine .inl ⟨trivial, ?_⟩
              refine .inl ⟨.pointer (some ⟨gv, 3, none⟩), W, ?_, rfl, Below.refl _ _⟩
              go_simp
            refine And.intro ?_ ?_
            · intro d hd ρ W hcs bw hn hg
              cases hd
              have e43 : ρ (.tmp 43) = .pointer (some ⟨gv, 3, none⟩) := hn 43 (by decide)
              clear hn hg
              refine .inl ⟨trivial, ?_⟩
              have z0 : W.cell? ⟨gv, 3, none⟩ = some (.string ⟨#[]⟩) := (Blk.below kvd bw (Blk.lt kvd)).cell 3
              refine .inl ⟨.string ⟨#[]⟩, W, ?_, rfl, Below.refl _ _⟩
              go_simp
            refine And.intro ?_ ?_
            · intro d hd ρ W hcs bw hn hg
              cases hd
              have e7 : ρ (.tmp 7) = .bool false := hn 7 (by decide)
              clear hn hg
              refine .inl ⟨trivial, ?_⟩
              refine .inl ⟨_, W, rfl, e7, Below.refl _ _⟩
            refine And.intro ?_ ?_
            · intro d hd ρ W hcs bw hn hg
              cases hd
              have e45 : ρ (.tmp 45) = .bool false := hn 45 (by decide)
              clear hn hg
              refine .inl ⟨trivial, ?_⟩
              refine .inl ⟨_, W, rfl, e45, Below.refl _ _⟩
            refine And.intro ?_ ?_
            · intro d hd ρ W hcs bw hn hg
              cases hd
              have eg : ρ (.tmp 46) = .bool false := hg _ _ _ _ rfl rfl rfl
              have e1 : ρ (.tmp 1) = .int .u64 (slot : Int) := hn 1 (by decide)
              clear hn hg
              refine .inl ⟨⟨_, _, rfl, rfl, eg⟩, ?_⟩
              refine .inl ⟨_, W, rfl, e1, Below.refl _ _⟩
            refine And.intro ?_ ?_
            · intro d hd ρ W hcs bw hn hg
              cases hd
              have eg : ρ (.tmp 46) = .bool false := hg _ _ _ _ rfl rfl rfl
              have e2 : ρ (.tmp 2) = .pointer (some ⟨gx, 0, none⟩) := hn 2 (by decide)
              clear hn hg
              refine .inl ⟨⟨_, _, rfl, rfl, eg⟩, ?_⟩
              have z0 : W.cell? ⟨gx, 0, none⟩ = some (.int .u64 (bn : Int)) := (Blk.below kxd bw (Blk.lt kxd)).cell 0
              have z1 : W.cell? ⟨gx, 1, none⟩ = some (.int .u8 (br : Int)) := (Blk.below kxd bw (Blk.lt kxd)).cell 1
              have z2 : W.cell? ⟨gx, 2, none⟩ = some (.slice A k cp) := (Blk.below kxd bw (Blk.lt kxd)).cell 2
              refine .inl ⟨.agg #[.int .u64 (bn : Int), .int .u8 (br : Int), .slice A k cp], W, ?_, rfl, Below.refl _ _⟩
              go_simp
            refine And.intro ?_ ?_
            · intro d hd ρ W hcs bw hn hg
              cases hd
              have eg : ρ (.tmp 46) = .bool false := hg _ _ _ _ rfl rfl rfl
              have e48 : ρ (.tmp 48) = .agg #[.int .u64 (bn : Int), .int .u8 (br : Int), .slice A k cp] := hn 48 (by decide)
              clear hn hg
              refine .inl ⟨⟨_, _, rfl, rfl, eg⟩, ?_⟩
              have ef : ρ (.func 66) = .func (.func 66) #[] #[] := hcs.2 _
              refine .inr ⟨66, #[.agg #[.int .u64 (bn : Int), .int .u8 (br : Int), .slice A k cp]], ?_, (HLA.out W (bwq.trans (bw.mono bwq.size))).mono ?_⟩
              · go_simp
              · rintro e w2 ⟨rfl, B2⟩; exact ⟨_, rfl, rfl, B2⟩
            refine And.intro ?_ ?_
            · intro d hd ρ W hcs bw hn hg
              cases hd
              have eg : ρ (.tmp 46) = .bool false := hg _ _ _ _ rfl rfl rfl
              have e47 : ρ (.tmp 47) = .int .u64 (slot : Int) := hn 47 (by decide)
              have e49 : ρ (.tmp 49) = .int .u64 (la : Int) := hn 49 (by decide)
              clear hn hg
              refine .inl ⟨⟨_, _, rfl, rfl, eg⟩, ?_⟩
              refine .inl ⟨.bool true, W, ?_, rfl, Below.refl _ _⟩
              go_simp
            refine And.intro ?_ ?_
            · intro d hd ρ W hcs bw hn hg
              cases hd
              have e46 : ρ (.tmp 46) = .bool false := hn 46 (by decide)
              have e50 : ρ (.tmp 50) = .bool true := hn 50 (by decide)
              clear hn hg
              refine .inl ⟨trivial, ?_⟩
              have hc1 := hcs.1
              refine .inl ⟨.bool true, W, ?_, rfl, Below.refl _ _⟩
              go_simp
            refine And.intro ?_ ?_
            · intro d hd ρ W hcs bw hn hg
              cases hd
              have e44 : ρ (.tmp 44) = .string ⟨#[]⟩ := hn 44 (by decide)
              clear hn hg
              refine .inl ⟨trivial, ?_⟩
              refine .inl ⟨_, W, rfl, e44, Below.refl _ _⟩
            refine And.intro ?_ ?_
            · intro d hd ρ W hcs bw hn hg
              cases hd
              have e51 : ρ (.tmp 51) = .bool true := hn 51 (by decide)
              clear hn hg
              refine .inl ⟨trivial, ?_⟩
              refine .inl ⟨_, W, rfl, e51, Below.refl _ _⟩
            trivial
          · intro a' w' hsz hdf hb hVs
            have q4 : a'.eval (.tmp 4) = .string ⟨#[]⟩ := hVs 4
            have q5 : a'.eval (.tmp 5) = .bool true := hVs 5
            have ha := slot_over_seg 43 9 [4, 5] rfl (by kernel_rfl) (of_decide_eq_true (by kernel_rfl)) hsz hdf hVs
            clear hVs hsz hdf
            rw [show List.range' 43 9 = [43, 44, 45, 46, 47, 48, 49, 50, 51] from rfl] at ha
            simp only [List.take_succ_cons, List.take_zero, List.drop_succ_cons, List.drop_zero, List.map_cons, List.map_nil, List.cons_append, List.nil_append, List.foldl_cons, List.foldl_nil, List.set_cons_zero, List.set_cons_succ, q4, q5] at ha
            clear q4 q5
            generalize a'.eval (.tmp 43) = x43 at ha
            generalize a'.eval (.tmp 44) = x44 at ha
            generalize a'.eval (.tmp 45) = x45 at ha
            generalize a'.eval (.tmp 46) = x46 at ha
            generalize a'.eval (.tmp 47) = x47 at ha
            generalize a'.eval (.tmp 48) = x48 at ha
            generalize a'.eval (.tmp 49) = x49 at ha
            generalize a'.eval (.tmp 50) = x50 at ha
            generalize a'.eval (.tmp 51) = x51 at ha
            subst ha
            have bz := bw.drew.trans (hb.mono bw.drew.size)
            clear hb bw kxd kvd
            go_wp2_with fail
            exact bodyPost_ret (v := .tuple #[.string ⟨#[]⟩, .bool true]) (by simp [results, Try.results67]) rfl ⟨by rw [HV2.out.1, HV2.out.2, hde]; rfl, bz⟩
        · have hsi : ¬ (slot : Int) < (la : Int) := by omega
          have hde := decide_eq_false hsl
          go_wp2_with fail
          have bwq := bw.drew
          refine region_inv2 (by kernel_rfl) [] [(43, .pointer (some ⟨gv, 3, none⟩)), (44, .string ⟨#[]⟩), (45, .bool false), (46, .bool false), (47, .int .u64 (slot : Int)), (48, .agg #[.int .u64 (bn : Int), .int .u8 (br : Int), .slice A k cp]), (49, .int .u64 (la : Int)), (50, .bool false), (51, .bool false), (4, .string ⟨#[]⟩), (5, .bool false)] (by kernel_rfl) (by kernel_rfl) rfl (by kernel_rfl) ?_ ?_ ?_
          · intro q hq; cases hq
          · refine And.intro ?_ ?_
            · intro d hd ρ W hcs bw hn hg
              cases hd
              have e6 : ρ (.tmp 6) = .pointer (some ⟨gv, 0, none⟩) := hn 6 (by decide)
              clear hn hg
              refine .inl ⟨trivial, ?_⟩
              refine .inl ⟨.pointer (some ⟨gv, 3, none⟩), W, ?_, rfl, Below.refl _ _⟩
              go_simp
            refine And.intro ?_ ?_
            · intro d hd ρ W hcs bw hn hg
              cases hd
              have e43 : ρ (.tmp 43) = .pointer (some ⟨gv, 3, none⟩) := hn 43 (by decide)
              clear hn hg
              refine .inl ⟨trivial, ?_⟩
              have z0 : W.cell? ⟨gv, 3, none⟩ = some (.string ⟨#[]⟩) := (Blk.below kvd bw (Blk.lt kvd)).cell 3
              refine .inl ⟨.string ⟨#[]⟩, W, ?_, rfl, Below.refl _ _⟩
              go_simp
            refine And.intro ?_ ?_
            · intro d hd ρ W hcs bw hn hg
              cases hd
              have e7 : ρ (.tmp 7) = .bool false := hn 7 (by decide)
              clear hn hg
              refine .inl ⟨trivial, ?_⟩
              refine .inl ⟨_, W, rfl, e7, Below.refl _ _⟩
            refine And.intro ?_ ?_
            · intro d hd ρ W hcs bw hn hg
              cases hd
              have e45 : ρ (.tmp 45) = .bool false := hn 45 (by decide)
              clear hn hg
              refine .inl ⟨trivial, ?_⟩
              refine .inl ⟨_, W, rfl, e45, Below.refl _ _⟩
            refine And.intro ?_ ?_
            · intro d hd ρ W hcs bw hn hg
              cases hd
              have eg : ρ (.tmp 46) = .bool false := hg _ _ _ _ rfl rfl rfl
              have e1 : ρ (.tmp 1) = .int .u64 (slot : Int) := hn 1 (by decide)
              clear hn hg
              refine .inl ⟨⟨_, _, rfl, rfl, eg⟩, ?_⟩
              refine .inl ⟨_, W, rfl, e1, Below.refl _ _⟩
            refine And.intro ?_ ?_
            · intro d hd ρ W hcs bw hn hg
              cases hd
              have eg : ρ (.tmp 46) = .bool false := hg _ _ _ _ rfl rfl rfl
              have e2 : ρ (.tmp 2) = .pointer (some ⟨gx, 0, none⟩) := hn 2 (by decide)
              clear hn hg
              refine .inl ⟨⟨_, _, rfl, rfl, eg⟩, ?_⟩
              have z0 : W.cell? ⟨gx, 0, none⟩ = some (.int .u64 (bn : Int)) := (Blk.below kxd bw (Blk.lt kxd)).cell 0
              have z1 : W.cell? ⟨gx, 1, none⟩ = some (.int .u8 (br : Int)) := (Blk.below kxd bw (Blk.lt kxd)).cell 1
              have z2 : W.cell? ⟨gx, 2, none⟩ = some (.slice A k cp) := (Blk.below kxd bw (Blk.lt kxd)).cell 2
              refine .inl ⟨.agg #[.int .u64 (bn : Int), .int .u8 (br : Int), .slice A k cp], W, ?_, rfl, Below.refl _ _⟩
              go_simp
            refine And.intro ?_ ?_
            · intro d hd ρ W hcs bw hn hg
              cases hd
              have eg : ρ (.tmp 46) = .bool false := hg _ _ _ _ rfl rfl rfl
              have e48 : ρ (.tmp 48) = .agg #[.int .u64 (bn : Int), .int .u8 (br : Int), .slice A k cp] := hn 48 (by decide)
              clear hn hg
              refine .inl ⟨⟨_, _, rfl, rfl, eg⟩, ?_⟩
              have ef : ρ (.func 66) = .func (.func 66) #[] #[] := hcs.2 _
              refine .inr ⟨66, #[.agg #[.int .u64 (bn : Int), .int .u8 (br : Int), .slice A k cp]], ?_, (HLA.out W (bwq.trans (bw.mono bwq.size))).mono ?_⟩
              · go_simp
              · rintro e w2 ⟨rfl, B2⟩; exact ⟨_, rfl, rfl, B2⟩
            refine And.intro ?_ ?_
            · intro d hd ρ W hcs bw hn hg
              cases hd
              have eg : ρ (.tmp 46) = .bool false := hg _ _ _ _ rfl rfl rfl
              have e47 : ρ (.tmp 47) = .int .u64 (slot : Int) := hn 47 (by decide)
              have e49 : ρ (.tmp 49) = .int .u64 (la : Int) := hn 49 (by decide)
              clear hn hg
              refine .inl ⟨⟨_, _, rfl, rfl, eg⟩, ?_⟩
              refine .inl ⟨.bool false, W, ?_, rfl, Below.refl _ _⟩
              go_simp
            refine And.intro ?_ ?_
            · intro d hd ρ W hcs bw hn hg
              cases hd
              have e46 : ρ (.tmp 46) = .bool false := hn 46 (by decide)
              have e50 : ρ (.tmp 50) = .bool false := hn 50 (by decide)
              clear hn hg
              refine .inl ⟨trivial, ?_⟩
              have hc1 := hcs.1
              refine .inl ⟨.bool false, W, ?_, rfl, Below.refl _ _⟩
              go_simp
            refine And.intro ?_ ?_
            · intro d hd ρ W hcs bw hn hg
              cases hd
              have e44 : ρ (.tmp 44) = .string ⟨#[]⟩ := hn 44 (by decide)
              clear hn hg
              refine .inl ⟨trivial, ?_⟩
              refine .inl ⟨_, W, rfl, e44, Below.refl _ _⟩
            refine And.intro ?_ ?_
            · intro d hd ρ W hcs bw hn hg
              cases hd
              have e51 : ρ (.tmp 51) = .bool false := hn 51 (by decide)
              clear hn hg
              refine .inl ⟨trivial, ?_⟩
              refine .inl ⟨_, W, rfl, e51, Below.refl _ _⟩
            trivial
          · intro a' w' hsz hdf hb hVs
            have q4 : a'.eval (.tmp 4) = .string ⟨#[]⟩ := hVs 4
            have q5 : a'.eval (.tmp 5) = .bool false := hVs 5
            have ha := slot_over_seg 43 9 [4, 5] rfl (by kernel_rfl) (of_decide_eq_true (by kernel_rfl)) hsz hdf hVs
            clear hVs hsz hdf
            rw [show List.range' 43 9 = [43, 44, 45, 46, 47, 48, 49, 50, 51] from rfl] at ha
            simp only [List.take_succ_cons, List.take_zero, List.drop_succ_cons, List.drop_zero, List.map_cons, List.map_nil, List.cons_append, List.nil_append, List.foldl_cons, List.foldl_nil, List.set_cons_zero, List.set_cons_succ, q4, q5] at ha
            clear q4 q5
            generalize a'.eval (.tmp 43) = x43 at ha
            generalize a'.eval (.tmp 44) = x44 at ha
            generalize a'.eval (.tmp 45) = x45 at ha
            generalize a'.eval (.tmp 46) = x46 at ha
            generalize a'.eval (.tmp 47) = x47 at ha
            generalize a'.eval (.tmp 48) = x48 at ha
            generalize a'.eval (.tmp 49) = x49 at ha
            generalize a'.eval (.tmp 50) = x50 at ha
            generalize a'.eval (.tmp 51) = x51 at ha
            subst ha
            have bz := bw.drew.trans (hb.mono bw.drew.size)
            clear hb bw kxd kvd
            go_wp2_with fail
            exact bodyPost_ret (v := .tuple #[.string ⟨#[]⟩, .bool false]) (by simp [results, Try.results67]) rfl ⟨by rw [HV2.out.1, HV2.out.2, hde]; rfl, bz⟩
end Go.Proofs.Ytbamfnlgapchkaa.Ele
