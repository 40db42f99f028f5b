/- The walk of BallotTurns: a node's turn is above, its own, and the least one; turns rise. Conditions: the list can be read. -/
import Derived.Test.YtgoppdllknimfaaBalOrder
import Derived.Deep.LoopGhost
import Derived.Deep.RegionHeld3
namespace Go.Proofs.Ytgoppdllknimfaa.Bal
open Go.RowKit

/-! ### The plain law -/
def TurnOk (b : B) (node : Nat) (x : B) : Prop :=
  x.r = node ∧ ltB b x = true ∧ mayB x = true ∧ Fits x ∧ ∀ m, mayB ⟨m, node⟩ = true → ltB b ⟨m, node⟩ = true → ltB ⟨m, node⟩ x = false
theorem mayB_iff (b : B) : mayB b = true ↔ (b.n = 0 ∧ b.r = 0) ∨ (0 < b.n ∧ b.r ≤ 6) := by unfold mayB; simp
theorem turn_law (b : B) (node : Nat) (hb : Fits b) :
    ((turnN b node).2 = 0 ∧ TurnOk b node (turnN b node).1) ∨ ((turnN b node).2 = 2 ∧ mayB b = false) ∨ ((turnN b node).2 = 2 ∧ mayB b = true ∧ 7 ≤ node) ∨ ((turnN b node).2 = 7 ∧ b.n = 18446744073709551615) := by
  unfold turnN
  have h0 := hb.1
  cases hm : mayB b
  · exact .inr (.inl (by simp))
  · by_cases h6 : 6 < node
    · exact .inr (.inr (.inl (by simp [h6]; omega)))
    · rw [if_neg (by simp [h6])]
      rw [mayB_iff] at hm
      by_cases h1 : 0 < b.n ∧ b.r < node
      · rw [if_pos h1]
        refine .inl ⟨rfl, rfl, (ltB_iff _ _).2 (.inr ⟨rfl, h1.2⟩), (mayB_iff _).2 (.inr ⟨h1.1, by simp only; omega⟩), ⟨h0, by simp only; omega⟩, ?_⟩
        intro m _ h2
        rw [ltB_iff] at h2
        rw [ltB_false]
        simp only at *
        omega
      · rw [if_neg h1]
        by_cases h3 : b.n = 18446744073709551615
        · rw [if_pos h3]
          exact .inr (.inr (.inr ⟨rfl, h3⟩))
        · rw [if_neg h3]
          refine .inl ⟨rfl, rfl, (ltB_iff _ _).2 (.inl (by simp only; omega)), (mayB_iff _).2 (.inr ⟨by simp only; omega, by simp only; omega⟩), ⟨by simp only; omega, by simp only; omega⟩, ?_⟩
          intro m h4 h2
          rw [mayB_iff] at h4
          rw [ltB_iff] at h2
          rw [ltB_false]
          simp only at *
          omega
theorem ltB_trans {a b c : B} (h1 : ltB a b = true) (h2 : ltB b c = true) : ltB a c = true := by
  rw [ltB_iff] at *
  omega
theorem balCells_at : ∀ (l : List B) (k : Nat) (b : B), l[k]? = some b → (balCells l)[k * 2]? = some (.int .u64 (b.n : Int)) ∧ (balCells l)[k * 2 + 1]? = some (.int .u8 (b.r : Int))
  | [], k, b, h => by simp at h
  | x :: l, 0, b, h => by obtain rfl := Option.some.inj h; exact ⟨rfl, rfl⟩
  | x :: l, k + 1, b, h => by
    have := balCells_at l k b (by simpa using h)
    have e : balCells (x :: l) = .int .u64 (x.n : Int) :: .int .u8 (x.r : Int) :: balCells l := rfl
    rw [e, show (k + 1) * 2 = k * 2 + 1 + 1 by omega]
    simpa using this
theorem balCells_snoc (l : List B) (b : B) : balCells (l ++ [b]) = balCells l ++ [.int .u64 (b.n : Int), .int .u8 (b.r : Int)] := by unfold balCells; rw [List.flatMap_append]; rfl

/-! ### Slices of ballots that are one's own -/
theorem own_below {w w' : World} {base : Nat} {e : TypeId} {size n : Nat} {v : Value} {xs : List Value} (h : w.ownsRow base e size v n xs) (hb : Below w.heap.size w w') : w'.ownsRow base e size v n xs := by
  have hlt := h.lt
  refine ⟨h.1, ?_⟩
  rcases h.2 with h0 | ⟨g, cap, cur, rfl, hg, hh, rest⟩
  · exact .inl h0
  · exact .inr ⟨g, cap, cur, rfl, hg, (hb.block g (hlt g rfl).2).trans hh, rest⟩
def Told (w : World) (base : Nat) (v : Value) (l : List B) : Prop := w.ownsRow base 25 2 v l.length (balCells l)
theorem Told.below {w w' : World} {base : Nat} {v : Value} {l : List B} (h : Told w base v l) (hb : Below w.heap.size w w') : Told w' base v l := own_below h hb
theorem Told.form {w : World} {base : Nat} {v : Value} {l : List B} (h : Told w base v l) : ∃ A c, v = .slice A l.length c ∧ Balls w A l := by
  have h' := h
  have hR : ∃ A c, v = .slice A l.length c ∧ Reads w w.heap.size 2 A l.length (balCells l) := by
    rcases h.2 with ⟨rfl, hn⟩ | ⟨g, cap, cur, rfl, _⟩
    · rw [hn]
      obtain rfl : l = [] := List.eq_nil_of_length_eq_zero hn
      exact ⟨none, 0, rfl, ⟨rfl, fun h0 => absurd h0 (by omega)⟩⟩
    · exact ⟨_, _, rfl, Reads.of_own h'⟩
  obtain ⟨A, c, rfl, hr⟩ := hR
  refine ⟨A, c, rfl, ?_⟩
  intro k b hk
  have hkl : k < l.length := by
    rcases Nat.lt_or_ge k l.length with h0 | h0
    · exact h0
    · rw [List.getElem?_eq_none h0] at hk; cases hk
  obtain ⟨ad, rfl, hlt, hc⟩ := hr.2 (by omega)
  have := balCells_at l k b hk
  exact ⟨ad, rfl, hlt, hc _ _ this.1, hc _ _ this.2⟩

theorem Kb.set2 {g : Nat} {u0 v0 u v : Value} {L : List (Nat × Array Value)} {w W : World} (k : Kb ((g, #[u0, v0]) :: L) w W) (hne : ∀ p ∈ L, p.1 ≠ g) (hw : w.heap.size ≤ g) :
    Kb ((g, #[u, v]) :: L) w ((W.setCell ⟨g, 0, none⟩ u).setCell ⟨g, 1, none⟩ v) where
  bw := (k.bw.setCell (p := ⟨g, 0, none⟩) hw u).setCell (p := ⟨g, 1, none⟩) hw v
  at_ := by
    intro p hp
    rcases List.mem_cons.1 hp with rfl | hp
    · exact (k.i1.set_ 0 u).set_ 1 v
    · exact ((k.at_ p (List.mem_cons_of_mem _ hp)).far (p := ⟨g, 0, none⟩) (hne p hp) u).far (p := ⟨g, 1, none⟩) (hne p hp) v
theorem Kb.tail {a : Nat × Array Value} {L : List (Nat × Array Value)} {w W : World} (k : Kb (a :: L) w W) : Kb L w W := ⟨k.bw, fun p hp => k.at_ p (List.mem_cons_of_mem _ hp)⟩
theorem reads_new2 (w : World) (t : TypeId) (u v : Value) : Reads (w.alloc (.cells #[u, v] t)) (w.alloc (.cells #[u, v] t)).heap.size 2 (some ⟨w.heap.size, 0, none⟩) 1 [u, v] := by
  have hb := Blk.new w t #[u, v]
  refine ⟨rfl, fun _ => ⟨_, rfl, by simp, ?_⟩⟩
  intro j x hx
  match j, hx with
  | 0, hx => obtain rfl := Option.some.inj hx; exact hb.cell 0
  | 1, hx => obtain rfl := Option.some.inj hx; exact hb.cell 1
theorem Kb.grown2' {L : List (Nat × Array Value)} {w W W' : World} {row : Option Nat} (k : Kb L w W) {o : Obj} (hg : (W.alloc o).grownBy W' row) (hr : ∀ o, row = some o → w.heap.size ≤ o ∧ ∀ p ∈ L, p.1 ≠ o) : Kb L w W' where
  bw := (k.alloc o).bw.grown hg (k.alloc o).bw.size (fun o ho => (hr o ho).1)
  at_ := fun p hp => ((k.alloc o).at_ p hp).grown hg (fun e => (hr p.1 e.symm).2 p hp rfl)
/-- An operation of a drawn region taken first, its slot named. -/
theorem take1 {P : Program} {ops : Array Oper} {Q : Exit → Act → World → Prop} {md : Region.Mode} {S : World → Prop} {i d : Nat} {oi : Oper} {v : Value} {fuel : Nat} {listed : Array Bool} {tm : List Value} {ds : List Deferred} {w : World} (hi : ops[i]? = some oi)
    (hs : Region.noSelect ops = true) (hf : Region.free md ops listed i = true) (hr : (Region.ready md ops listed).contains i = true) (hd : oi.dst = some d)
    (hQ : ∀ c a w, Q (.panic c) (a.put oi.dst v) w → Q (.panic c) a w) (hy : YieldsIf P ops S oi v ⟨tm.toArray, ds⟩) (hS : S w)
    (h : wpAnyH P md ops Q S fuel (listed.setIfInBounds i true) ⟨(tm.set d v).toArray, ds⟩ w) : wpAnyH P md ops Q S (fuel + 1) listed ⟨tm.toArray, ds⟩ w := by
  refine wpAnyH_take hi hs hf hr hQ hy hS ?_
  have e : (Act.mk tm.toArray ds).put oi.dst v = ⟨(tm.set d v).toArray, ds⟩ := by rw [hd]; simp [Act.put]
  rw [e]
  exact h
/-! ### The walk -/
theorem info_bal : (Try.prog.info? 25).map (fun i => (i.zero, i.size, i.bytes)) = some (some (.agg #[.int .u64 0, .int .u8 0]), 2, 16) := by kernel_rfl
/-- What holds at the head of a round. -/
def TurnsAt (l : List Nat) (w : World) (gk : Nat) (v i : Value) (wr : World) : Prop :=
  ∃ (k : Nat) (b : B) (told : List B), k + gk = l.length ∧ i = .int .i64 (k : Int) ∧ told.length ≤ k ∧ Told wr (w.heap.size + 1) v told ∧ Kb [(w.heap.size, bC b)] w wr ∧ Fits b ∧ ∀ t ∈ told, ltB t b = true ∨ t = b
def InnerAt (told : List B) (g : Nat) (x b : B) (v : Value) (w : World) (gk : Nat) (i : Value) (wr : World) : Prop :=
  ∃ j : Nat, j + gk = told.length ∧ i = .int .i64 (j : Int) ∧ Kb [(g, bC x), (w.heap.size, bC b)] w wr ∧ Told wr (w.heap.size + 1) v told

set_option maxRecDepth 100000 in
set_option maxHeartbeats 20000000 in
theorem turns_any (b0 : B) (hb0 : Fits b0) (l : List Nat) (hl : l.length ≤ 9223372036854775807) (h8 : ∀ x ∈ l, x < 256) (A : Option Addr) (c n : Nat) (w : World) (h : Reads w w.heap.size 1 A l.length (l.map fun x : Nat => .int .u8 (x : Int))) :
    Calls Try.prog 5 #[bV b0, .slice A l.length c, .int .u64 (n : Int)] w fun e w' => e = .returned (.bool true) ∧ Below w.heap.size w w' := by
  obtain ⟨i0, hi, hz0, hz1, hz2⟩ := info_parts info_bal
  obtain ⟨n0, r0⟩ := b0
  have k := (Kb.refl w).new #[.int .u64 (n0 : Int), .int .u8 (r0 : Int)]
  by_cases hb2 : 60 < l.length
  · go_enter Try.func5, Try.ntmps5
    unfold bV bC at *
    go_wp2_with fail
    refine (wakes7_any _).mono ?_; rintro e w' ⟨rfl, hb⟩
    have k := k.below hb
    go_wp2
    go_ret
    exact ⟨rfl, k.bw⟩
  have HR := Lib.hid h
  have H8 := Lib.hid h8
  have HI := Lib.hid (And.intro hi (And.intro hz0 (And.intro hz1 hz2)))
  clear h h8 hi hz0 hz1 hz2
  go_enter Try.func5, Try.ntmps5
  unfold bV bC at *
  go_wp2_with fail
  go_loopg [7, 8] l.length (fun gk v i wr => TurnsAt l w gk v i wr)
  case atStart => exact ⟨0, ⟨n0, r0⟩, [], by omega, rfl, by simp, ⟨rfl, .inl ⟨rfl, rfl⟩⟩, k, hb0, by simp⟩
  case round =>
    clear k
    obtain ⟨k, b, told, hk, rfl, htl, hT, kb, hf, hlt⟩ := hrel
    by_cases hkl : k < l.length
    · have hx : l[k]? = some l[k] := List.getElem?_eq_getElem hkl
      have hx8 := H8.out _ (List.getElem_mem hkl)
      obtain ⟨ad, u, rfl, hab, hu, hcell⟩ := HR.out.at_ hkl
      rw [List.getElem?_map, hx] at hu
      obtain rfl := Option.some.inj hu
      generalize l[k] = node at *
      have hlaw := turn_law b node hf
      have hturn := turn_any b node hf.1
      generalize turnN b node = p at hlaw hturn
      obtain ⟨⟨xn, xr⟩, xe⟩ := p
      obtain ⟨bn, br⟩ := b
      have c0 := (kb.bw.cell (p := ad.add k) (by rw [block_of_add]; exact hab)).trans hcell
      have b0 := kb.i1.cell 0
      have b1 := kb.i1.cell 1
      simp [bC] at b0 b1 c0
      obtain ⟨At, ct, rfl, hbal⟩ := hT.form
      have HL := Lib.hid hlaw
      have HT := Lib.hid hturn
      have HV := Lib.hid hlt
      have hC := Lib.hid hcell
      clear hlaw hturn hx hcell hlt hu
      unfold TurnRet bV bC at HT
      simp only at HT
      unfold bC at kb
      simp only at kb
      go_upto_region 7 with fail
      go_cut [9, 10] (fun s9 s10 wx => ∃ g, w.heap.size < g ∧ s9 = .pointer (some ⟨g, 0, none⟩) ∧ s10 = .int .i64 xe ∧ Kb [(g, #[.int .u64 (xn : Int), .int .u8 (xr : Int)]), (w.heap.size, #[.int .u64 (bn : Int), .int .u8 (br : Int)])] w wx ∧ Told wx (w.heap.size + 1) (.slice At told.length ct) told ∧ ∀ o, Value.ownBlock (.slice At told.length ct) = some o → o < g)
      case first =>
        have hgo := hT.lt
        have k0 := Kb.refl wr
        have s1 := kb.i1.lt
        dsimp only at s1
        have n1 : ¬ w.heap.size = wr.heap.size := by omega
        have s2 : (ad.add k).block < wr.heap.size := by rw [block_of_add]; omega
        have n2 : ¬ (ad.add k).block = wr.heap.size := by omega
        have keep1 : ∀ W, Kb [(w.heap.size, #[.int .u64 (bn : Int), .int .u8 (br : Int)])] w W → (W.cell? (ad.add k) = some (.int .u8 (node : Int)) ∧ W.cell? ⟨w.heap.size, 0, none⟩ = some (.int .u64 (bn : Int)) ∧ W.cell? ⟨w.heap.size, 1, none⟩ = some (.int .u8 (br : Int))) :=
          fun W kw => ⟨(kw.bw.cell (p := ad.add k) (by rw [block_of_add]; exact hab)).trans hC.out, kw.i1.cell 0, kw.i1.cell 1⟩
        go_region_held3 (fun W : World => W.cell? (ad.add k) = some (.int .u8 (node : Int)) ∧ W.cell? ⟨w.heap.size, 0, none⟩ = some (.int .u64 (bn : Int)) ∧ W.cell? ⟨w.heap.size, 1, none⟩ = some (.int .u8 (br : Int))) (first | exact keep1 _ kb1 | exact keep1 _ kb1.tail | exact keep1 _ (kb1.new _).tail | exact keep1 _ (kb1.set2 (by simp; omega) (Nat.le_of_lt s1)).tail | exact keep1 _ kb.drew | exact keep1 _ kb | exact keep1 _ (kb.new _).drew.tail | exact keep1 _ (kb.new _).tail) (first
          | (go_at_call 15; refine (HT.out _).mono ?_; rintro e w7 ⟨rfl, B7⟩; have k1 := (k0.new #[.int .u64 0, .int .u8 0]).drew.below B7; have kb1 := (kb.new #[.int .u64 0, .int .u8 0]).drew.below B7; have kl := k1.i1.lt; have f0 := k1.i1.frozen 0; have f1 := k1.i1.frozen 1; have q0 := k1.i1.cell 0; have q1 := k1.i1.cell 1; simp at q0 q1; dsimp only at f0 f1 kl; clear B7)
          | (go_at_call 15; refine (HT.out _).mono ?_; rintro e w7 ⟨rfl, B7⟩; have k1 := k0.drew.below B7; have kb1 := kb.drew.below B7; clear B7))
        all_goals (go_wp2_with fail; go_meet)
        all_goals first
          | exact ⟨wr.heap.size, by omega, rfl, rfl, kb1.set2 (by simp; omega) (Nat.le_of_lt s1), hT.below (k1.set2 (by simp) (Nat.le_refl _)).bw, fun o ho => (hgo o ho).2⟩
          | exact ⟨w7.heap.size, by have := kb1.i1.lt; simp only at this; omega, rfl, rfl, kb1.new _, hT.below (k1.new _).bw, fun o ho => Nat.lt_of_lt_of_le (hgo o ho).2 k1.bw.size⟩
      case rest =>
        clear kb hT b0 b1 hbal c0
        obtain ⟨g, hg, rfl, rfl, kb, hT, hgo⟩ := hcut
        have c0 := (kb.bw.cell (p := ad.add k) (by rw [block_of_add]; exact hab)).trans hC.out
        have b0 := kb.i2.cell 0
        have b1 := kb.i2.cell 1
        simp at b0 b1
        have HG := Lib.hid hgo
        clear hgo
        rcases HL.out with ⟨he, hok⟩ | ⟨he, hm⟩ | ⟨he, hm, h7⟩ | ⟨he, hn⟩
        · simp only at he hok
          subst he
          obtain ⟨hr, hlt1, hmx, hfx, hleast⟩ := hok
          simp only at hr
          subst hr
          have LX := Lib.hid hlt1
          have MX := Lib.hid hmx
          have ML := Lib.hid hleast
          have HFX := Lib.hid hfx
          clear hlt1 hmx hleast hfx
          go_wp2_with fail
          refine (of_any n xr _).mono ?_; rintro e w8 ⟨rfl, B8⟩
          have kb := kb.below (Al1.below B8)
          have hT := hT.below (Al1.below B8)
          have hT := hT.below (below_1 w8 (.cells #[.int .u64 (n : Int), .int .u8 (xr : Int)] 25))
          have kb := kb.new #[.int .u64 (n : Int), .int .u8 (xr : Int)]
          clear B8 c0 b0 b1
          unfold bV bC
          go_upto_region 12 with fail
          generalize w8.alloc (.cells #[.int .u64 (n : Int), .int .u8 (xr : Int)] 25) = w12 at *
          generalize w8.heap.size = gl at *
          go_cut [95] (fun s95 wx => s95 = .bool false ∧ Kb [(g, #[.int .u64 (xn : Int), .int .u8 (xr : Int)]), (w.heap.size, #[.int .u64 (bn : Int), .int .u8 (br : Int)])] w wx ∧ Told wx (w.heap.size + 1) (.slice At told.length ct) told)
          case first =>
            have c0 := (kb.bw.cell (p := ad.add k) (by rw [block_of_add]; exact hab)).trans hC.out
            have k0 := (Kb.refl w12).drew
            have kb := kb.drew
            have C1 := check_any ⟨xn, xr⟩
            rw [(chk_of ⟨xn, xr⟩).1 MX.out] at C1
            have L1 := below_any ⟨bn, br⟩ ⟨xn, xr⟩
            rw [LX.out] at L1
            have C2 := check_any ⟨n, xr⟩
            have L2 := below_any ⟨bn, br⟩ ⟨n, xr⟩
            have L3 := below_any ⟨n, xr⟩ ⟨xn, xr⟩
            unfold bV bC at C1 L1 C2 L2 L3
            simp only at C1 L1 C2 L2 L3
            have hcase : mayB ⟨n, xr⟩ = false ∨ (mayB ⟨n, xr⟩ = true ∧ ltB ⟨bn, br⟩ ⟨n, xr⟩ = false) ∨ (mayB ⟨n, xr⟩ = true ∧ ltB ⟨bn, br⟩ ⟨n, xr⟩ = true ∧ ltB ⟨n, xr⟩ ⟨xn, xr⟩ = false) := by
              cases h1 : mayB ⟨n, xr⟩
              · exact .inl rfl
              · cases h2 : ltB ⟨bn, br⟩ ⟨n, xr⟩
                · exact .inr (.inl ⟨rfl, rfl⟩)
                · exact .inr (.inr ⟨rfl, rfl, ML.out n h1 h2⟩)
            rcases hcase with h1 | ⟨h1, h2⟩ | ⟨h1, h2, h3⟩
            · rw [(chk_of ⟨n, xr⟩).2 h1] at C2
              have K := Lib.hid (And.intro C1 (And.intro L1 (And.intro C2 (And.intro L2 L3))))
              clear C1 L1 C2 L2 L3 h1
              refine wp_region_held_drew (S := (fun W : World => W.cell? (ad.add k) = some (.int .u8 (xr : Int)) ∧ W.cell? ⟨w.heap.size, 0, none⟩ = some (.int .u64 (bn : Int)) ∧ W.cell? ⟨w.heap.size, 1, none⟩ = some (.int .u8 (br : Int)) ∧ W.cell? ⟨g, 0, none⟩ = some (.int .u64 (xn : Int)) ∧ W.cell? ⟨g, 1, none⟩ = some (.int .u8 (xr : Int)) ∧ W.cell? ⟨gl, 0, none⟩ = some (.int .u64 (n : Int)) ∧ W.cell? ⟨gl, 1, none⟩ = some (.int .u8 (xr : Int)))) (by kernel_rfl) (⟨(kb.bw.cell (p := ad.add k) (by rw [block_of_add]; exact hab)).trans hC.out, kb.i3.cell 0, kb.i3.cell 1, kb.i2.cell 0, kb.i2.cell 1, kb.i1.cell 0, kb.i1.cell 1⟩) (fun hHeld => ?_)
              refine take1 (i := 0) (d := 63) (v := ?_) rfl (by kernel_rfl) (by kernel_rfl) (by kernel_rfl) rfl (fun _ _ _ h => h) (Or.inl ⟨by rfl, ?_⟩) (by assumption) ?_
              rotate_left
              · (intro w hSw; (try dsimp only at hSw); go_simp); with_reducible rfl
              simp only [List.set_cons_zero, List.set_cons_succ]
              refine take1 (i := 1) (d := 64) (v := ?_) rfl (by kernel_rfl) (by kernel_rfl) (by kernel_rfl) rfl (fun _ _ _ h => h) (Or.inl ⟨by rfl, ?_⟩) (by assumption) ?_
              rotate_left
              · (intro w hSw; (try dsimp only at hSw); go_simp); with_reducible rfl
              simp only [List.set_cons_zero, List.set_cons_succ]
              refine take1 (i := 2) (d := 65) (v := ?_) rfl (by kernel_rfl) (by kernel_rfl) (by kernel_rfl) rfl (fun _ _ _ h => h) (Or.inl ⟨by rfl, ?_⟩) (by assumption) ?_
              rotate_left
              · (intro w hSw; (try dsimp only at hSw); go_simp); with_reducible rfl
              simp only [List.set_cons_zero, List.set_cons_succ]
              refine take1 (i := 3) (d := 66) (v := ?_) rfl (by kernel_rfl) (by kernel_rfl) (by kernel_rfl) rfl (fun _ _ _ h => h) (Or.inl ⟨by rfl, ?_⟩) (by assumption) ?_
              rotate_left
              · (intro w hSw; (try dsimp only at hSw); go_simp); with_reducible rfl
              simp only [List.set_cons_zero, List.set_cons_succ]
              refine take1 (i := 4) (d := 67) (v := ?_) rfl (by kernel_rfl) (by kernel_rfl) (by kernel_rfl) rfl (fun _ _ _ h => h) (Or.inl ⟨by rfl, ?_⟩) (by assumption) ?_
              rotate_left
              · (intro w hSw; (try dsimp only at hSw); go_simp); with_reducible rfl
              simp only [List.set_cons_zero, List.set_cons_succ]
              refine take1 (i := 5) (d := 68) (v := ?_) rfl (by kernel_rfl) (by kernel_rfl) (by kernel_rfl) rfl (fun _ _ _ h => h) (Or.inl ⟨by rfl, ?_⟩) (by assumption) ?_
              rotate_left
              · (intro w hSw; (try dsimp only at hSw); go_simp); with_reducible rfl
              simp only [List.set_cons_zero, List.set_cons_succ]
              refine take1 (i := 6) (d := 69) (v := ?_) rfl (by kernel_rfl) (by kernel_rfl) (by kernel_rfl) rfl (fun _ _ _ h => h) (Or.inl ⟨by rfl, ?_⟩) (by assumption) ?_
              rotate_left
              · (intro w hSw; (try dsimp only at hSw); go_simp); with_reducible rfl
              simp only [List.set_cons_zero, List.set_cons_succ]
              refine take1 (i := 7) (d := 70) (v := ?_) rfl (by kernel_rfl) (by kernel_rfl) (by kernel_rfl) rfl (fun _ _ _ h => h) (Or.inl ⟨by rfl, ?_⟩) (by assumption) ?_
              rotate_left
              · (intro w hSw; (try dsimp only at hSw); go_simp); with_reducible rfl
              simp only [List.set_cons_zero, List.set_cons_succ]
              refine take1 (i := 8) (d := 71) (v := ?_) rfl (by kernel_rfl) (by kernel_rfl) (by kernel_rfl) rfl (fun _ _ _ h => h) (Or.inl ⟨by rfl, ?_⟩) (by assumption) ?_
              rotate_left
              · (intro w hSw; (try dsimp only at hSw); go_simp); with_reducible rfl
              simp only [List.set_cons_zero, List.set_cons_succ]
              refine take1 (i := 9) (d := 72) (v := ?_) rfl (by kernel_rfl) (by kernel_rfl) (by kernel_rfl) rfl (fun _ _ _ h => h) (Or.inl ⟨by rfl, ?_⟩) (by assumption) ?_
              rotate_left
              · (intro w hSw; (try dsimp only at hSw); go_simp); with_reducible rfl
              simp only [List.set_cons_zero, List.set_cons_succ]
              refine wpAnyH_ready (rs := [10]) (by kernel_rfl) (by simp) (AllReadyH.cons rfl (fun Kreg hKreg => ?_) AllReadyH.nil)
              go_simp
              (go_at_call 19; (with_reducible refine (K.out.2.1 _).mono ?_); rintro e w9 ⟨rfl, B9⟩; have kb := kb.below (Al5.below B9); have k0 := k0.below (Al5.below B9); clear B9)
              go_wp2_with fail
              refine hKreg.out _ _ (⟨(kb.bw.cell (p := ad.add k) (by rw [block_of_add]; exact hab)).trans hC.out, kb.i3.cell 0, kb.i3.cell 1, kb.i2.cell 0, kb.i2.cell 1, kb.i1.cell 0, kb.i1.cell 1⟩) (fun hHeld => ?_)
              clear hKreg Kreg
              try simp only [Act.put, List.setIfInBounds_toArray, List.set_cons_zero, List.set_cons_succ]
              refine take1 (i := 11) (d := 74) (v := ?_) rfl (by kernel_rfl) (by kernel_rfl) (by kernel_rfl) rfl (fun _ _ _ h => h) (Or.inl ⟨by rfl, ?_⟩) (by assumption) ?_
              rotate_left
              · (intro w hSw; (try dsimp only at hSw); go_simp); with_reducible rfl
              simp only [List.set_cons_zero, List.set_cons_succ]
              refine take1 (i := 12) (d := 75) (v := ?_) rfl (by kernel_rfl) (by kernel_rfl) (by kernel_rfl) rfl (fun _ _ _ h => h) (Or.inl ⟨by rfl, ?_⟩) (by assumption) ?_
              rotate_left
              · (intro w hSw; (try dsimp only at hSw); go_simp); with_reducible rfl
              simp only [List.set_cons_zero, List.set_cons_succ]
              refine take1 (i := 13) (d := 76) (v := ?_) rfl (by kernel_rfl) (by kernel_rfl) (by kernel_rfl) rfl (fun _ _ _ h => h) (Or.inl ⟨by rfl, ?_⟩) (by assumption) ?_
              rotate_left
              · (intro w hSw; (try dsimp only at hSw); go_simp); with_reducible rfl
              simp only [List.set_cons_zero, List.set_cons_succ]
              refine take1 (i := 14) (d := 77) (v := ?_) rfl (by kernel_rfl) (by kernel_rfl) (by kernel_rfl) rfl (fun _ _ _ h => h) (Or.inl ⟨by rfl, ?_⟩) (by assumption) ?_
              rotate_left
              · (intro w hSw; (try dsimp only at hSw); go_simp); with_reducible rfl
              simp only [List.set_cons_zero, List.set_cons_succ]
              refine wpAnyH_ready (rs := [15]) (by kernel_rfl) (by simp) (AllReadyH.cons rfl (fun Kreg hKreg => ?_) AllReadyH.nil)
              go_simp
              (go_at_call 18; (with_reducible refine (K.out.1 _).mono ?_); rintro e w9 ⟨rfl, B9⟩; have kb := kb.below (Al1.below B9); have k0 := k0.below (Al1.below B9); clear B9)
              go_wp2_with fail
              refine hKreg.out _ _ (⟨(kb.bw.cell (p := ad.add k) (by rw [block_of_add]; exact hab)).trans hC.out, kb.i3.cell 0, kb.i3.cell 1, kb.i2.cell 0, kb.i2.cell 1, kb.i1.cell 0, kb.i1.cell 1⟩) (fun hHeld => ?_)
              clear hKreg Kreg
              try simp only [Act.put, List.setIfInBounds_toArray, List.set_cons_zero, List.set_cons_succ]
              refine take1 (i := 16) (d := 79) (v := ?_) rfl (by kernel_rfl) (by kernel_rfl) (by kernel_rfl) rfl (fun _ _ _ h => h) (Or.inl ⟨by rfl, ?_⟩) (by assumption) ?_
              rotate_left
              · (intro w hSw; (try dsimp only at hSw); go_simp); with_reducible rfl
              simp only [List.set_cons_zero, List.set_cons_succ]
              refine take1 (i := 17) (d := 80) (v := ?_) rfl (by kernel_rfl) (by kernel_rfl) (by kernel_rfl) rfl (fun _ _ _ h => h) (Or.inl ⟨by rfl, ?_⟩) (by assumption) ?_
              rotate_left
              · (intro w hSw; (try dsimp only at hSw); go_simp); with_reducible rfl
              simp only [List.set_cons_zero, List.set_cons_succ]
              refine take1 (i := 18) (d := 81) (v := ?_) rfl (by kernel_rfl) (by kernel_rfl) (by kernel_rfl) rfl (fun _ _ _ h => h) (Or.inl ⟨by rfl, ?_⟩) (by assumption) ?_
              rotate_left
              · (intro w hSw; (try dsimp only at hSw); go_simp); with_reducible rfl
              simp only [List.set_cons_zero, List.set_cons_succ]
              refine take1 (i := 19) (d := 82) (v := ?_) rfl (by kernel_rfl) (by kernel_rfl) (by kernel_rfl) rfl (fun _ _ _ h => h) (Or.inl ⟨by rfl, ?_⟩) (by assumption) ?_
              rotate_left
              · (intro w hSw; (try dsimp only at hSw); go_simp); with_reducible rfl
              simp only [List.set_cons_zero, List.set_cons_succ]
              refine wpAnyH_ready (rs := [20]) (by kernel_rfl) (by simp) (AllReadyH.cons rfl (fun Kreg hKreg => ?_) AllReadyH.nil)
              go_simp
              (go_at_call 18; (with_reducible refine (K.out.2.2.1 _).mono ?_); rintro e w9 ⟨rfl, B9⟩; have kb := kb.below (Al1.below B9); have k0 := k0.below (Al1.below B9); clear B9)
              go_wp2_with fail
              refine hKreg.out _ _ (⟨(kb.bw.cell (p := ad.add k) (by rw [block_of_add]; exact hab)).trans hC.out, kb.i3.cell 0, kb.i3.cell 1, kb.i2.cell 0, kb.i2.cell 1, kb.i1.cell 0, kb.i1.cell 1⟩) (fun hHeld => ?_)
              clear hKreg Kreg
              try simp only [Act.put, List.setIfInBounds_toArray, List.set_cons_zero, List.set_cons_succ]
              refine take1 (i := 21) (d := 84) (v := ?_) rfl (by kernel_rfl) (by kernel_rfl) (by kernel_rfl) rfl (fun _ _ _ h => h) (Or.inl ⟨by rfl, ?_⟩) (by assumption) ?_
              rotate_left
              · (intro w hSw; (try dsimp only at hSw); go_simp); with_reducible rfl
              simp only [List.set_cons_zero, List.set_cons_succ]
              refine take1 (i := 22) (d := 85) (v := ?_) rfl (by kernel_rfl) (by kernel_rfl) (by kernel_rfl) rfl (fun _ _ _ h => h) (Or.inl ⟨by rfl, ?_⟩) (by assumption) ?_
              rotate_left
              · (intro w hSw; (try dsimp only at hSw); go_simp); with_reducible rfl
              simp only [List.set_cons_zero, List.set_cons_succ]
              refine take1 (i := 23) (d := 86) (v := undef) rfl (by kernel_rfl) (by kernel_rfl) (by kernel_rfl) rfl (fun _ _ _ h => h) (Or.inr ⟨by rfl, rfl⟩) (by assumption) ?_
              simp only [List.set_cons_zero, List.set_cons_succ]
              refine take1 (i := 24) (d := 87) (v := undef) rfl (by kernel_rfl) (by kernel_rfl) (by kernel_rfl) rfl (fun _ _ _ h => h) (Or.inr ⟨by rfl, rfl⟩) (by assumption) ?_
              simp only [List.set_cons_zero, List.set_cons_succ]
              refine take1 (i := 25) (d := 88) (v := undef) rfl (by kernel_rfl) (by kernel_rfl) (by kernel_rfl) rfl (fun _ _ _ h => h) (Or.inr ⟨by rfl, rfl⟩) (by assumption) ?_
              simp only [List.set_cons_zero, List.set_cons_succ]
              refine take1 (i := 26) (d := 89) (v := ?_) rfl (by kernel_rfl) (by kernel_rfl) (by kernel_rfl) rfl (fun _ _ _ h => h) (Or.inl ⟨by rfl, ?_⟩) (by assumption) ?_
              rotate_left
              · (intro w hSw; (try dsimp only at hSw); go_simp); with_reducible rfl
              simp only [List.set_cons_zero, List.set_cons_succ]
              refine take1 (i := 27) (d := 90) (v := ?_) rfl (by kernel_rfl) (by kernel_rfl) (by kernel_rfl) rfl (fun _ _ _ h => h) (Or.inl ⟨by rfl, ?_⟩) (by assumption) ?_
              rotate_left
              · (intro w hSw; (try dsimp only at hSw); go_simp); with_reducible rfl
              simp only [List.set_cons_zero, List.set_cons_succ]
              refine take1 (i := 28) (d := 91) (v := undef) rfl (by kernel_rfl) (by kernel_rfl) (by kernel_rfl) rfl (fun _ _ _ h => h) (Or.inr ⟨by rfl, rfl⟩) (by assumption) ?_
              simp only [List.set_cons_zero, List.set_cons_succ]
              refine take1 (i := 29) (d := 92) (v := undef) rfl (by kernel_rfl) (by kernel_rfl) (by kernel_rfl) rfl (fun _ _ _ h => h) (Or.inr ⟨by rfl, rfl⟩) (by assumption) ?_
              simp only [List.set_cons_zero, List.set_cons_succ]
              refine take1 (i := 30) (d := 93) (v := undef) rfl (by kernel_rfl) (by kernel_rfl) (by kernel_rfl) rfl (fun _ _ _ h => h) (Or.inr ⟨by rfl, rfl⟩) (by assumption) ?_
              simp only [List.set_cons_zero, List.set_cons_succ]
              refine take1 (i := 31) (d := 94) (v := ?_) rfl (by kernel_rfl) (by kernel_rfl) (by kernel_rfl) rfl (fun _ _ _ h => h) (Or.inl ⟨by rfl, ?_⟩) (by assumption) ?_
              rotate_left
              · (intro w hSw; (try dsimp only at hSw); go_simp); with_reducible rfl
              simp only [List.set_cons_zero, List.set_cons_succ]
              refine take1 (i := 32) (d := 95) (v := ?_) rfl (by kernel_rfl) (by kernel_rfl) (by kernel_rfl) rfl (fun _ _ _ h => h) (Or.inl ⟨by rfl, ?_⟩) (by assumption) ?_
              rotate_left
              · (intro w hSw; (try dsimp only at hSw); go_simp); with_reducible rfl
              simp only [List.set_cons_zero, List.set_cons_succ]
              refine wpAnyH_done (by kernel_rfl) ?_ _
              all_goals (go_wp2_with fail; go_meet; exact ⟨rfl, kb.tail, hT.below k0.bw⟩)
            · rw [(chk_of ⟨n, xr⟩).1 h1] at C2
              rw [h2] at L2
              have K := Lib.hid (And.intro C1 (And.intro L1 (And.intro C2 (And.intro L2 L3))))
              clear C1 L1 C2 L2 L3 h1 h2
              refine wp_region_held_drew (S := (fun W : World => W.cell? (ad.add k) = some (.int .u8 (xr : Int)) ∧ W.cell? ⟨w.heap.size, 0, none⟩ = some (.int .u64 (bn : Int)) ∧ W.cell? ⟨w.heap.size, 1, none⟩ = some (.int .u8 (br : Int)) ∧ W.cell? ⟨g, 0, none⟩ = some (.int .u64 (xn : Int)) ∧ W.cell? ⟨g, 1, none⟩ = some (.int .u8 (xr : Int)) ∧ W.cell? ⟨gl, 0, none⟩ = some (.int .u64 (n : Int)) ∧ W.cell? ⟨gl, 1, none⟩ = some (.int .u8 (xr : Int)))) (by kernel_rfl) (⟨(kb.bw.cell (p := ad.add k) (by rw [block_of_add]; exact hab)).trans hC.out, kb.i3.cell 0, kb.i3.cell 1, kb.i2.cell 0, kb.i2.cell 1, kb.i1.cell 0, kb.i1.cell 1⟩) (fun hHeld => ?_)
              refine take1 (i := 0) (d := 63) (v := ?_) rfl (by kernel_rfl) (by kernel_rfl) (by kernel_rfl) rfl (fun _ _ _ h => h) (Or.inl ⟨by rfl, ?_⟩) (by assumption) ?_
              rotate_left
              · (intro w hSw; (try dsimp only at hSw); go_simp); with_reducible rfl
              simp only [List.set_cons_zero, List.set_cons_succ]
              refine take1 (i := 1) (d := 64) (v := ?_) rfl (by kernel_rfl) (by kernel_rfl) (by kernel_rfl) rfl (fun _ _ _ h => h) (Or.inl ⟨by rfl, ?_⟩) (by assumption) ?_
              rotate_left
              · (intro w hSw; (try dsimp only at hSw); go_simp); with_reducible rfl
              simp only [List.set_cons_zero, List.set_cons_succ]
              refine take1 (i := 2) (d := 65) (v := ?_) rfl (by kernel_rfl) (by kernel_rfl) (by kernel_rfl) rfl (fun _ _ _ h => h) (Or.inl ⟨by rfl, ?_⟩) (by assumption) ?_
              rotate_left
              · (intro w hSw; (try dsimp only at hSw); go_simp); with_reducible rfl
              simp only [List.set_cons_zero, List.set_cons_succ]
              refine take1 (i := 3) (d := 66) (v := ?_) rfl (by kernel_rfl) (by kernel_rfl) (by kernel_rfl) rfl (fun _ _ _ h => h) (Or.inl ⟨by rfl, ?_⟩) (by assumption) ?_
              rotate_left
              · (intro w hSw; (try dsimp only at hSw); go_simp); with_reducible rfl
              simp only [List.set_cons_zero, List.set_cons_succ]
              refine take1 (i := 4) (d := 67) (v := ?_) rfl (by kernel_rfl) (by kernel_rfl) (by kernel_rfl) rfl (fun _ _ _ h => h) (Or.inl ⟨by rfl, ?_⟩) (by assumption) ?_
              rotate_left
              · (intro w hSw; (try dsimp only at hSw); go_simp); with_reducible rfl
              simp only [List.set_cons_zero, List.set_cons_succ]
              refine take1 (i := 5) (d := 68) (v := ?_) rfl (by kernel_rfl) (by kernel_rfl) (by kernel_rfl) rfl (fun _ _ _ h => h) (Or.inl ⟨by rfl, ?_⟩) (by assumption) ?_
              rotate_left
              · (intro w hSw; (try dsimp only at hSw); go_simp); with_reducible rfl
              simp only [List.set_cons_zero, List.set_cons_succ]
              refine take1 (i := 6) (d := 69) (v := ?_) rfl (by kernel_rfl) (by kernel_rfl) (by kernel_rfl) rfl (fun _ _ _ h => h) (Or.inl ⟨by rfl, ?_⟩) (by assumption) ?_
              rotate_left
              · (intro w hSw; (try dsimp only at hSw); go_simp); with_reducible rfl
              simp only [List.set_cons_zero, List.set_cons_succ]
              refine take1 (i := 7) (d := 70) (v := ?_) rfl (by kernel_rfl) (by kernel_rfl) (by kernel_rfl) rfl (fun _ _ _ h => h) (Or.inl ⟨by rfl, ?_⟩) (by assumption) ?_
              rotate_left
              · (intro w hSw; (try dsimp only at hSw); go_simp); with_reducible rfl
              simp only [List.set_cons_zero, List.set_cons_succ]
              refine take1 (i := 8) (d := 71) (v := ?_) rfl (by kernel_rfl) (by kernel_rfl) (by kernel_rfl) rfl (fun _ _ _ h => h) (Or.inl ⟨by rfl, ?_⟩) (by assumption) ?_
              rotate_left
              · (intro w hSw; (try dsimp only at hSw); go_simp); with_reducible rfl
              simp only [List.set_cons_zero, List.set_cons_succ]
              refine take1 (i := 9) (d := 72) (v := ?_) rfl (by kernel_rfl) (by kernel_rfl) (by kernel_rfl) rfl (fun _ _ _ h => h) (Or.inl ⟨by rfl, ?_⟩) (by assumption) ?_
              rotate_left
              · (intro w hSw; (try dsimp only at hSw); go_simp); with_reducible rfl
              simp only [List.set_cons_zero, List.set_cons_succ]
              refine wpAnyH_ready (rs := [10]) (by kernel_rfl) (by simp) (AllReadyH.cons rfl (fun Kreg hKreg => ?_) AllReadyH.nil)
              go_simp
              (go_at_call 19; (with_reducible refine (K.out.2.1 _).mono ?_); rintro e w9 ⟨rfl, B9⟩; have kb := kb.below (Al5.below B9); have k0 := k0.below (Al5.below B9); clear B9)
              go_wp2_with fail
              refine hKreg.out _ _ (⟨(kb.bw.cell (p := ad.add k) (by rw [block_of_add]; exact hab)).trans hC.out, kb.i3.cell 0, kb.i3.cell 1, kb.i2.cell 0, kb.i2.cell 1, kb.i1.cell 0, kb.i1.cell 1⟩) (fun hHeld => ?_)
              clear hKreg Kreg
              try simp only [Act.put, List.setIfInBounds_toArray, List.set_cons_zero, List.set_cons_succ]
              refine take1 (i := 11) (d := 74) (v := ?_) rfl (by kernel_rfl) (by kernel_rfl) (by kernel_rfl) rfl (fun _ _ _ h => h) (Or.inl ⟨by rfl, ?_⟩) (by assumption) ?_
              rotate_left
              · (intro w hSw; (try dsimp only at hSw); go_simp); with_reducible rfl
              simp only [List.set_cons_zero, List.set_cons_succ]
              refine take1 (i := 12) (d := 75) (v := ?_) rfl (by kernel_rfl) (by kernel_rfl) (by kernel_rfl) rfl (fun _ _ _ h => h) (Or.inl ⟨by rfl, ?_⟩) (by assumption) ?_
              rotate_left
              · (intro w hSw; (try dsimp only at hSw); go_simp); with_reducible rfl
              simp only [List.set_cons_zero, List.set_cons_succ]
              refine take1 (i := 13) (d := 76) (v := ?_) rfl (by kernel_rfl) (by kernel_rfl) (by kernel_rfl) rfl (fun _ _ _ h => h) (Or.inl ⟨by rfl, ?_⟩) (by assumption) ?_
              rotate_left
              · (intro w hSw; (try dsimp only at hSw); go_simp); with_reducible rfl
              simp only [List.set_cons_zero, List.set_cons_succ]
              refine take1 (i := 14) (d := 77) (v := ?_) rfl (by kernel_rfl) (by kernel_rfl) (by kernel_rfl) rfl (fun _ _ _ h => h) (Or.inl ⟨by rfl, ?_⟩) (by assumption) ?_
              rotate_left
              · (intro w hSw; (try dsimp only at hSw); go_simp); with_reducible rfl
              simp only [List.set_cons_zero, List.set_cons_succ]
              refine wpAnyH_ready (rs := [15]) (by kernel_rfl) (by simp) (AllReadyH.cons rfl (fun Kreg hKreg => ?_) AllReadyH.nil)
              go_simp
              (go_at_call 18; (with_reducible refine (K.out.1 _).mono ?_); rintro e w9 ⟨rfl, B9⟩; have kb := kb.below (Al1.below B9); have k0 := k0.below (Al1.below B9); clear B9)
              go_wp2_with fail
              refine hKreg.out _ _ (⟨(kb.bw.cell (p := ad.add k) (by rw [block_of_add]; exact hab)).trans hC.out, kb.i3.cell 0, kb.i3.cell 1, kb.i2.cell 0, kb.i2.cell 1, kb.i1.cell 0, kb.i1.cell 1⟩) (fun hHeld => ?_)
              clear hKreg Kreg
              try simp only [Act.put, List.setIfInBounds_toArray, List.set_cons_zero, List.set_cons_succ]
              refine take1 (i := 16) (d := 79) (v := ?_) rfl (by kernel_rfl) (by kernel_rfl) (by kernel_rfl) rfl (fun _ _ _ h => h) (Or.inl ⟨by rfl, ?_⟩) (by assumption) ?_
              rotate_left
              · (intro w hSw; (try dsimp only at hSw); go_simp); with_reducible rfl
              simp only [List.set_cons_zero, List.set_cons_succ]
              refine take1 (i := 17) (d := 80) (v := ?_) rfl (by kernel_rfl) (by kernel_rfl) (by kernel_rfl) rfl (fun _ _ _ h => h) (Or.inl ⟨by rfl, ?_⟩) (by assumption) ?_
              rotate_left
              · (intro w hSw; (try dsimp only at hSw); go_simp); with_reducible rfl
              simp only [List.set_cons_zero, List.set_cons_succ]
              refine take1 (i := 18) (d := 81) (v := ?_) rfl (by kernel_rfl) (by kernel_rfl) (by kernel_rfl) rfl (fun _ _ _ h => h) (Or.inl ⟨by rfl, ?_⟩) (by assumption) ?_
              rotate_left
              · (intro w hSw; (try dsimp only at hSw); go_simp); with_reducible rfl
              simp only [List.set_cons_zero, List.set_cons_succ]
              refine take1 (i := 19) (d := 82) (v := ?_) rfl (by kernel_rfl) (by kernel_rfl) (by kernel_rfl) rfl (fun _ _ _ h => h) (Or.inl ⟨by rfl, ?_⟩) (by assumption) ?_
              rotate_left
              · (intro w hSw; (try dsimp only at hSw); go_simp); with_reducible rfl
              simp only [List.set_cons_zero, List.set_cons_succ]
              refine wpAnyH_ready (rs := [20]) (by kernel_rfl) (by simp) (AllReadyH.cons rfl (fun Kreg hKreg => ?_) AllReadyH.nil)
              go_simp
              (go_at_call 18; (with_reducible refine (K.out.2.2.1 _).mono ?_); rintro e w9 ⟨rfl, B9⟩; have kb := kb.below (Al1.below B9); have k0 := k0.below (Al1.below B9); clear B9)
              go_wp2_with fail
              refine hKreg.out _ _ (⟨(kb.bw.cell (p := ad.add k) (by rw [block_of_add]; exact hab)).trans hC.out, kb.i3.cell 0, kb.i3.cell 1, kb.i2.cell 0, kb.i2.cell 1, kb.i1.cell 0, kb.i1.cell 1⟩) (fun hHeld => ?_)
              clear hKreg Kreg
              try simp only [Act.put, List.setIfInBounds_toArray, List.set_cons_zero, List.set_cons_succ]
              refine take1 (i := 21) (d := 84) (v := ?_) rfl (by kernel_rfl) (by kernel_rfl) (by kernel_rfl) rfl (fun _ _ _ h => h) (Or.inl ⟨by rfl, ?_⟩) (by assumption) ?_
              rotate_left
              · (intro w hSw; (try dsimp only at hSw); go_simp); with_reducible rfl
              simp only [List.set_cons_zero, List.set_cons_succ]
              refine take1 (i := 22) (d := 85) (v := ?_) rfl (by kernel_rfl) (by kernel_rfl) (by kernel_rfl) rfl (fun _ _ _ h => h) (Or.inl ⟨by rfl, ?_⟩) (by assumption) ?_
              rotate_left
              · (intro w hSw; (try dsimp only at hSw); go_simp); with_reducible rfl
              simp only [List.set_cons_zero, List.set_cons_succ]
              refine take1 (i := 23) (d := 86) (v := ?_) rfl (by kernel_rfl) (by kernel_rfl) (by kernel_rfl) rfl (fun _ _ _ h => h) (Or.inl ⟨by rfl, ?_⟩) (by assumption) ?_
              rotate_left
              · (intro w hSw; (try dsimp only at hSw); go_simp); with_reducible rfl
              simp only [List.set_cons_zero, List.set_cons_succ]
              refine take1 (i := 24) (d := 87) (v := ?_) rfl (by kernel_rfl) (by kernel_rfl) (by kernel_rfl) rfl (fun _ _ _ h => h) (Or.inl ⟨by rfl, ?_⟩) (by assumption) ?_
              rotate_left
              · (intro w hSw; (try dsimp only at hSw); go_simp); with_reducible rfl
              simp only [List.set_cons_zero, List.set_cons_succ]
              refine wpAnyH_ready (rs := [25]) (by kernel_rfl) (by simp) (AllReadyH.cons rfl (fun Kreg hKreg => ?_) AllReadyH.nil)
              go_simp
              (go_at_call 19; (with_reducible refine (K.out.2.2.2.1 _).mono ?_); rintro e w9 ⟨rfl, B9⟩; have kb := kb.below (Al5.below B9); have k0 := k0.below (Al5.below B9); clear B9)
              go_wp2_with fail
              refine hKreg.out _ _ (⟨(kb.bw.cell (p := ad.add k) (by rw [block_of_add]; exact hab)).trans hC.out, kb.i3.cell 0, kb.i3.cell 1, kb.i2.cell 0, kb.i2.cell 1, kb.i1.cell 0, kb.i1.cell 1⟩) (fun hHeld => ?_)
              clear hKreg Kreg
              try simp only [Act.put, List.setIfInBounds_toArray, List.set_cons_zero, List.set_cons_succ]
              refine take1 (i := 26) (d := 89) (v := ?_) rfl (by kernel_rfl) (by kernel_rfl) (by kernel_rfl) rfl (fun _ _ _ h => h) (Or.inl ⟨by rfl, ?_⟩) (by assumption) ?_
              rotate_left
              · (intro w hSw; (try dsimp only at hSw); go_simp); with_reducible rfl
              simp only [List.set_cons_zero, List.set_cons_succ]
              refine take1 (i := 27) (d := 90) (v := ?_) rfl (by kernel_rfl) (by kernel_rfl) (by kernel_rfl) rfl (fun _ _ _ h => h) (Or.inl ⟨by rfl, ?_⟩) (by assumption) ?_
              rotate_left
              · (intro w hSw; (try dsimp only at hSw); go_simp); with_reducible rfl
              simp only [List.set_cons_zero, List.set_cons_succ]
              refine take1 (i := 28) (d := 91) (v := undef) rfl (by kernel_rfl) (by kernel_rfl) (by kernel_rfl) rfl (fun _ _ _ h => h) (Or.inr ⟨by rfl, rfl⟩) (by assumption) ?_
              simp only [List.set_cons_zero, List.set_cons_succ]
              refine take1 (i := 29) (d := 92) (v := undef) rfl (by kernel_rfl) (by kernel_rfl) (by kernel_rfl) rfl (fun _ _ _ h => h) (Or.inr ⟨by rfl, rfl⟩) (by assumption) ?_
              simp only [List.set_cons_zero, List.set_cons_succ]
              refine take1 (i := 30) (d := 93) (v := undef) rfl (by kernel_rfl) (by kernel_rfl) (by kernel_rfl) rfl (fun _ _ _ h => h) (Or.inr ⟨by rfl, rfl⟩) (by assumption) ?_
              simp only [List.set_cons_zero, List.set_cons_succ]
              refine take1 (i := 31) (d := 94) (v := ?_) rfl (by kernel_rfl) (by kernel_rfl) (by kernel_rfl) rfl (fun _ _ _ h => h) (Or.inl ⟨by rfl, ?_⟩) (by assumption) ?_
              rotate_left
              · (intro w hSw; (try dsimp only at hSw); go_simp); with_reducible rfl
              simp only [List.set_cons_zero, List.set_cons_succ]
              refine take1 (i := 32) (d := 95) (v := ?_) rfl (by kernel_rfl) (by kernel_rfl) (by kernel_rfl) rfl (fun _ _ _ h => h) (Or.inl ⟨by rfl, ?_⟩) (by assumption) ?_
              rotate_left
              · (intro w hSw; (try dsimp only at hSw); go_simp); with_reducible rfl
              simp only [List.set_cons_zero, List.set_cons_succ]
              refine wpAnyH_done (by kernel_rfl) ?_ _
              all_goals (go_wp2_with fail; go_meet; exact ⟨rfl, kb.tail, hT.below k0.bw⟩)
            · rw [(chk_of ⟨n, xr⟩).1 h1] at C2
              rw [h2] at L2
              rw [h3] at L3
              have K := Lib.hid (And.intro C1 (And.intro L1 (And.intro C2 (And.intro L2 L3))))
              clear C1 L1 C2 L2 L3 h1 h2 h3
              first
              | (go_region_held3 (fun W : World => W.cell? (ad.add k) = some (.int .u8 (xr : Int)) ∧ W.cell? ⟨w.heap.size, 0, none⟩ = some (.int .u64 (bn : Int)) ∧ W.cell? ⟨w.heap.size, 1, none⟩ = some (.int .u8 (br : Int)) ∧ W.cell? ⟨g, 0, none⟩ = some (.int .u64 (xn : Int)) ∧ W.cell? ⟨g, 1, none⟩ = some (.int .u8 (xr : Int)) ∧
                W.cell? ⟨gl, 0, none⟩ = some (.int .u64 (n : Int)) ∧ W.cell? ⟨gl, 1, none⟩ = some (.int .u8 (xr : Int)))
                (exact ⟨(kb.bw.cell (p := ad.add k) (by rw [block_of_add]; exact hab)).trans hC.out, kb.i3.cell 0, kb.i3.cell 1, kb.i2.cell 0, kb.i2.cell 1, kb.i1.cell 0, kb.i1.cell 1⟩) (first
                | (go_at_call 19; (with_reducible refine (K.out.2.1 _).mono ?_); rintro e w9 ⟨rfl, B9⟩; have kb := kb.below (Al5.below B9); have k0 := k0.below (Al5.below B9); clear B9)
                | (go_at_call 19; (with_reducible refine (K.out.2.2.2.1 _).mono ?_); rintro e w9 ⟨rfl, B9⟩; have kb := kb.below (Al5.below B9); have k0 := k0.below (Al5.below B9); clear B9)
                | (go_at_call 19; (with_reducible refine (K.out.2.2.2.2 _).mono ?_); rintro e w9 ⟨rfl, B9⟩; have kb := kb.below (Al5.below B9); have k0 := k0.below (Al5.below B9); clear B9)
                | (go_at_call 18; (with_reducible refine (K.out.1 _).mono ?_); rintro e w9 ⟨rfl, B9⟩; have kb := kb.below (Al1.below B9); have k0 := k0.below (Al1.below B9); clear B9)
                | (go_at_call 18; (with_reducible refine (K.out.2.2.1 _).mono ?_); rintro e w9 ⟨rfl, B9⟩; have kb := kb.below (Al1.below B9); have k0 := k0.below (Al1.below B9); clear B9)))
              | fail
              all_goals (go_wp2_with fail; go_meet; exact ⟨rfl, kb.tail, hT.below k0.bw⟩)
          case rest =>
            clear kb hT
            obtain ⟨rfl, kb, hT⟩ := hcut
            go_wp2_with fail
            go_loopg [12] told.length (fun gk i wr => InnerAt told g ⟨xn, xr⟩ ⟨bn, br⟩ (.slice At told.length ct) w gk i wr)
            case atStart => exact ⟨0, by omega, rfl, kb, hT⟩
            case round =>
              clear kb hT
              obtain ⟨j, hj, rfl, kb, hT⟩ := hrel
              unfold bC at kb
              simp only at kb
              have x0 := kb.i1.cell 0
              have x1 := kb.i1.cell 1
              simp at x0 x1
              by_cases hjl : j < told.length
              · have ht : told[j]? = some told[j] := List.getElem?_eq_getElem hjl
                have htx : ltB told[j] ⟨xn, xr⟩ = true := by
                  rcases HV.out _ (List.getElem_mem hjl) with h1 | h1
                  · exact ltB_trans h1 LX.out
                  · rw [h1]; exact LX.out
                generalize told[j] = t at ht htx
                obtain ⟨tn, tr⟩ := t
                obtain ⟨A', c', e', hb⟩ := hT.form
                obtain ⟨ad', ea, hlta, d0, d1⟩ := hb j _ ht
                subst ea
                simp only [Value.slice.injEq] at e'
                obtain ⟨rfl, _, rfl⟩ := e'
                rw [← add_next] at d1
                have L1 := below_any ⟨tn, tr⟩ ⟨xn, xr⟩
                rw [htx] at L1
                unfold bV bC at L1
                simp only at L1 d0 d1
                have LT := Lib.hid L1
                clear L1 ht hb
                have hcs := (ltB_iff ⟨tn, tr⟩ ⟨xn, xr⟩).1 htx
                clear htx
                simp only at hcs
                have keepI : ∀ W, Kb [(g, #[.int .u64 (xn : Int), .int .u8 (xr : Int)]), (w.heap.size, #[.int .u64 (bn : Int), .int .u8 (br : Int)])] w W → Below wr.heap.size wr W → (W.cell? (ad'.add (j * 2)) = some (.int .u64 (tn : Int)) ∧ W.cell? { block := (ad'.add (j * 2)).block, off := (ad'.add (j * 2)).off + 1 } = some (.int .u8 (tr : Int)) ∧ W.cell? ⟨g, 0, none⟩ = some (.int .u64 (xn : Int)) ∧ W.cell? ⟨g, 1, none⟩ = some (.int .u8 (xr : Int))) :=
                  fun W kw hw => ⟨(hw.cell (by rw [block_of_add]; exact hlta)).trans d0, (hw.cell (by simp only [block_of_add]; exact hlta)).trans d1, kw.i1.cell 0, kw.i1.cell 1⟩
                have k0 := (Kb.refl wr).drew
                have kb := kb.drew
                rcases hcs with h1 | ⟨h1, h2⟩
                · have E : ((tn : Int) == (xn : Int)) = false := beq_eq_false_iff_ne.2 (by omega)
                  clear h1
                  go_wp2_with fail
                  go_region_held3 (fun W : World => W.cell? (ad'.add (j * 2)) = some (.int .u64 (tn : Int)) ∧ W.cell? { block := (ad'.add (j * 2)).block, off := (ad'.add (j * 2)).off + 1 } = some (.int .u8 (tr : Int)) ∧ W.cell? ⟨g, 0, none⟩ = some (.int .u64 (xn : Int)) ∧ W.cell? ⟨g, 1, none⟩ = some (.int .u8 (xr : Int))) (exact keepI _ kb k0.bw)
                    (first | (go_at_call 19; refine (LT.out _).mono ?_; rintro e w9 ⟨rfl, B9⟩; have kb := kb.below (Al5.below B9); have k0 := k0.below (Al5.below B9); clear B9))
                  all_goals
                    go_wp2_with fail
                    go_roundg (told.length - (j + 1))
                    case measure => omega
                    case rel => exact ⟨j + 1, by omega, by go_num, kb, hT.below k0.bw⟩
                · subst h1
                  have E : ((tr : Int) == (xr : Int)) = false := beq_eq_false_iff_ne.2 (by omega)
                  clear h2
                  go_wp2_with fail
                  go_region_held3 (fun W : World => W.cell? (ad'.add (j * 2)) = some (.int .u64 (tn : Int)) ∧ W.cell? { block := (ad'.add (j * 2)).block, off := (ad'.add (j * 2)).off + 1 } = some (.int .u8 (tr : Int)) ∧ W.cell? ⟨g, 0, none⟩ = some (.int .u64 (tn : Int)) ∧ W.cell? ⟨g, 1, none⟩ = some (.int .u8 (xr : Int))) (exact keepI _ kb k0.bw)
                    (first | (go_at_call 19; refine (LT.out _).mono ?_; rintro e w9 ⟨rfl, B9⟩; have kb := kb.below (Al5.below B9); have k0 := k0.below (Al5.below B9); clear B9))
                  all_goals
                    go_wp2_with fail
                    go_roundg (told.length - (j + 1))
                    case measure => omega
                    case rel => exact ⟨j + 1, by omega, by go_num, kb, hT.below k0.bw⟩
              · obtain rfl : j = told.length := by omega
                have b0 := kb.i2.cell 0
                have b1 := kb.i2.cell 1
                have f0 := kb.i2.frozen 0
                have f1 := kb.i2.frozen 1
                simp at b0 b1
                dsimp only at f0 f1
                have hbase : w.heap.size + 1 ≤ wr.heap.size := kb.i2.lt
                obtain ⟨hi, hz0, hz1, hz2⟩ := HI.out
                have HA := Lib.hid (And.intro hi (And.intro hz0 (And.intro hz1 hz2)))
                have ho : ∀ o, Value.ownBlock (.slice At told.length ct) = some o → w.heap.size ≤ o ∧ ∀ p ∈ [(g, (#[.int .u64 (xn : Int), .int .u8 (xr : Int)] : Array Value)), (w.heap.size, #[.int .u64 (bn : Int), .int .u8 (br : Int)])], p.1 ≠ o := by
                  intro o e
                  have h1 := HG.out o e
                  have h2 := (hT.lt o e).1
                  refine ⟨by omega, ?_⟩
                  intro p hp
                  rcases List.mem_cons.1 hp with rfl | hp
                  · simp only; omega
                  · obtain rfl := List.mem_singleton.1 hp
                    simp only; omega
                have HO := Lib.hid ho
                clear ho
                clear hi hz0 hz1 hz2
                go_wp2_with (at_builtin; go_must (refine wpList_append_any _ rfl (.tmp 117) (.tmp 119) _ rfl (w.heap.size + 1) 25 i0 (.agg #[.int .u64 0, .int .u8 0]) 2 16 Try.underlying22 HA.out.1 HA.out.2.1 HA.out.2.2.1 HA.out.2.2.2 rfl (by omega) (.slice At told.length ct) told.length (balCells told) rfl (hT.alloc _) _ _ 1 1 [.int .u64 (xn : Int), .int .u8 (xr : Int)] rfl (reads_new2 wr _ _ _) (by simp [Value.oneCell']) (by simp only [maxLen]; omega) (by omega) (Nat.le_trans hbase (by simp)) ?_); intro v1 w1 hown1 hg1 hat1; have kb := kb.grown2' hg1 HO.out; have q0 := kb.i1.cell 0; have q1 := kb.i1.cell 1; have p0 := kb.i2.cell 0; have p1 := kb.i2.cell 1; have f0 := kb.i2.frozen 0; have f1 := kb.i2.frozen 1; simp at q0 q1 p0 p1; dsimp only at f0 f1; have HW := Lib.hid hown1; clear hown1 hg1 hat1)
                go_wp2_with fail
                go_roundg (l.length - (k + 1))
                case measure => omega
                case rel =>
                  refine ⟨k + 1, ⟨xn, xr⟩, told ++ [⟨xn, xr⟩], by omega, by go_num, by (rw [List.length_append]; simp; omega), ?_, kb.tail.set2 (by simp) (Nat.le_refl _), HFX.out, ?_⟩
                  · unfold Told
                    rw [balCells_snoc, List.length_append]
                    exact ownsRow_setCell_below (ownsRow_setCell_below HW.out (by simp) _) (by simp) _
                  · intro t ht
                    rcases List.mem_append.1 ht with h1 | h1
                    · left
                      rcases HV.out t h1 with h2 | h2
                      · exact ltB_trans h2 LX.out
                      · rw [h2]; exact LX.out
                    · right; exact List.mem_singleton.1 h1
        · simp only at he
          subst he
          have hck := check_any ⟨bn, br⟩
          rw [(chk_of ⟨bn, br⟩).2 hm] at hck
          have CK := Lib.hid hck
          clear hck hm
          go_wp2_with fail
          refine (CK.out _).mono ?_; rintro e w8 ⟨rfl, B8⟩
          have kb := kb.below (Al1.below B8)
          have hT := hT.below (Al1.below B8)
          clear B8
          go_wp2_with fail
          go_roundg (l.length - (k + 1))
          case measure => omega
          case rel => exact ⟨k + 1, ⟨bn, br⟩, told, by omega, by go_num, by omega, hT, kb.tail, hf, HV.out⟩
        · simp only at he
          subst he
          have hck := check_any ⟨bn, br⟩
          rw [(chk_of ⟨bn, br⟩).1 hm] at hck
          have CK := Lib.hid hck
          have g7 : ¬ (node : Int) < 7 := by omega
          clear hck hm
          go_wp2_with fail
          refine (CK.out _).mono ?_; rintro e w8 ⟨rfl, B8⟩
          have kb := kb.below (Al1.below B8)
          have hT := hT.below (Al1.below B8)
          clear c0 B8
          have c0 := (kb.bw.cell (p := ad.add k) (by rw [block_of_add]; exact hab)).trans hC.out
          go_wp2_with fail
          go_roundg (l.length - (k + 1))
          case measure => omega
          case rel => exact ⟨k + 1, ⟨bn, br⟩, told, by omega, by go_num, by omega, hT, kb.tail, hf, HV.out⟩
        · simp only at he hn
          subst he
          have Hn := Lib.hid hn
          have E : ((bn : Int) == 18446744073709551615) = true := by rw [hn]; decide
          clear hn
          go_wp2_with fail
          go_roundg (l.length - (k + 1))
          case measure => omega
          case rel => exact ⟨k + 1, ⟨bn, br⟩, told, by omega, by go_num, by omega, hT, kb.tail, hf, HV.out⟩
    · obtain rfl : k = l.length := by omega
      go_wp2_with fail
      refine (wakes7_any _).mono ?_; rintro e w9 ⟨rfl, B9⟩
      have kb := kb.below B9
      go_wp2
      go_ret
      exact ⟨rfl, kb.bw⟩
end Go.Proofs.Ytgoppdllknimfaa.Bal
