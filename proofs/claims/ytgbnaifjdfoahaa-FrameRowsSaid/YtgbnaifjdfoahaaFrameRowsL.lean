/- FrameRows, walked. Conditions: the arguments are of their types. -/
import Derived.Test.YtgbnaifjdfoahaaFrameRowsP
import Derived.Deep.LoopGhost
import Derived.Deep.DeepCutAuto
namespace Go.Proofs.Ytgbnaifjdfoahaa.Frame
open Go.RowKit Wire

theorem info_int3 : (Try.prog.info? 3).map (fun i => (i.zero, i.size, i.bytes)) = some (some (.int .i64 0), 1, 8) := by kernel_rfl
theorem rows_ne {W : World} {b1 b2 : Nat} {e1 e2 : TypeId} {s1 s2 n1 n2 : Nat} {v1 v2 : Value} {x1 x2 : List Value} (h1 : W.ownsRow b1 e1 s1 v1 n1 x1) (h2 : W.ownsRow b2 e2 s2 v2 n2 x2) (hne : e1 ≠ e2) : v1.ownBlock = none ∨ v1.ownBlock ≠ v2.ownBlock := by
  rcases h1.2 with ⟨rfl, _⟩ | ⟨g, cap, cur, rfl, _, hg, _⟩
  · exact .inl rfl
  · refine .inr ?_
    rcases h2.2 with ⟨rfl, _⟩ | ⟨g2, cap2, cur2, rfl, _, hg2, _⟩
    · simp [Value.ownBlock]
    · intro e
      have e' : g = g2 := by simpa [Value.ownBlock] using e
      subst e'
      rw [hg] at hg2
      simp at hg2
      exact hne hg2.2
/-- Where the first k frames of a row end. -/
@[irreducible] def en (l : List (List UInt8)) (k : Nat) : Nat := (allB (l.take k)).length
theorem en_eq (l : List (List UInt8)) (k : Nat) : en l k = (allB (l.take k)).length := by unfold en; rfl
def endsV (l : List (List UInt8)) (n : Nat) : List Value := (List.range n).map fun j => .int .i64 (en l (j + 1) : Int)
theorem endsV_succ (l : List (List UInt8)) (n : Nat) : endsV l (n + 1) = endsV l n ++ [.int .i64 (en l (n + 1) : Int)] := by unfold endsV; rw [List.range_succ, List.map_append]; rfl
def RowAt (w : World) (l : List (List UInt8)) (gk : Nat) (b ev i : Value) (wr : World) : Prop :=
  ∃ k : Nat, k + gk = l.length ∧ i = .int .i64 (k : Int) ∧ Fine (l.take k) ∧ wr.ownsRow w.heap.size 5 1 b (allB (l.take k)).length (bv (allB (l.take k))) ∧ wr.ownsRow w.heap.size 3 1 ev k (endsV l k) ∧ Below w.heap.size w wr
theorem endsV_get (l : List (List UInt8)) (n j : Nat) (h : j < n) : (endsV l n)[j]? = some (.int .i64 (en l (j + 1) : Int)) := by
  unfold endsV
  rw [List.getElem?_map, List.getElem?_range h]
  rfl
theorem end_at {w : World} {B n : Nat} {A : Option Addr} {l : List (List UInt8)} {k : Nat} (h : Reads w B 1 A n (endsV l n)) (hk : k < n) : ∃ ad, A = some ad ∧ ad.block < B ∧ w.cell? (ad.add k) = some (.int .i64 (en l (k + 1) : Int)) := by
  obtain ⟨ad, u, e, hb, hu, hc⟩ := h.at_ hk
  rw [endsV_get l n k hk] at hu
  obtain rfl := Option.some.inj hu
  exact ⟨ad, e, hb, hc⟩
theorem elem_strs : Try.prog.elem 59 = 9 := by kernel_rfl
theorem size_strs (w : World) : (sizeOf (Try.prog.elem 59)).run Try.prog w = .ok 1 w := by rw [elem_strs]; kernel_rfl
theorem under_strs : Try.prog.underlying 59 = some (.slice (Try.prog.elem 59)) := by kernel_rfl
/-- A slice of texts up to a place. -/
theorem strs_to {w : World} {B n c k : Nat} {A : Option Addr} {l : List (List UInt8)} (h : Reads w B 1 A n (sv l)) (hk : k ≤ n) (hc : n ≤ c) :
    ∃ A' c', (∀ W : World, (Instr.slice 59 (.slice A n c) none (some (.int .i64 (k : Int))) none).run Try.prog W = .ok (.slice A' k c') W) ∧ Reads w B 1 A' k (sv (l.take k)) := by
  refine ⟨if c = 0 then A else A.map (·.add (0 * 1)), c - 0, fun W => ?_, ?_⟩
  · rw [run_slice_h W _ _ _ _ under_strs .i64 (k : Int) (by omega) (by omega), size_strs]
    rfl
  · have hl := h.1
    unfold sv at hl
    rw [List.length_map, Nat.mul_one] at hl
    refine ⟨by unfold sv; rw [List.length_map, List.length_take]; omega, fun hk0 => ?_⟩
    obtain ⟨ad, rfl, hb, hcell⟩ := h.2 (by omega)
    rw [if_neg (by omega)]
    refine ⟨ad.add (0 * 1), rfl, by rw [block_of_add]; exact hb, fun j u hu => ?_⟩
    rw [add_of_add, Nat.zero_mul, Nat.zero_add]
    refine hcell j u ?_
    unfold sv at hu ⊢
    rw [List.getElem?_map, List.getElem?_take] at hu
    rw [List.getElem?_map]
    split at hu
    · exact hu
    · cases hu
theorem same_eq (a : List (List UInt8)) (n : Nat) (ha : a.length = n) (hn : n < 4611686018427387904) (A1 A2 : Option Addr) (c1 c2 : Nat) (W : World) (h1 : Reads W W.heap.size 1 A1 n (sv a)) (h2 : Reads W W.heap.size 1 A2 n (sv a)) :
    Calls Try.prog 34 #[.slice A1 n c1, .slice A2 n c2] W fun e w' => e = .returned (.bool true) ∧ Below W.heap.size W w' := by
  subst ha
  have h := same_any a a A1 A2 c1 c2 hn hn W h1 h2
  rw [beq_self_eq_true a] at h
  exact h
theorem split_eq (P : List UInt8) (hP : P.length ≤ 1000000) (ts : List (List UInt8)) (n e y : Nat) (hn : ts.length = n) (h1 : (framesOf P).map Prod.snd = ts) (h2 : endOf P = e) (h3 : whyOf P = y) (W : World) :
    Calls Try.prog 33 #[.string ⟨P.toArray⟩] W fun e1 w' => ∃ v, e1 = .returned (.tuple #[v, .int .i64 (e : Int), .int .i64 (y : Int)]) ∧ w'.ownsRow W.heap.size 9 1 v n (sv ts) ∧ Below W.heap.size W w' := by
  have h := split_any P hP W
  have hl : (framesOf P).length = n := by
    have := congrArg List.length h1
    rw [List.length_map] at this
    omega
  unfold RetSplit at h
  rw [h1, h2, h3, hl] at h
  exact h
theorem flip_all : ∀ n < 256, ∀ r < 8, bits .xor .u8 ((n : Nat) : Int) ((2 : Int) ^ r % 256) = ((n ^^^ 2 ^ r : Nat) : Int) ∧ n ^^^ 2 ^ r < 256 ∧ n ^^^ 2 ^ r ≠ n := by decide +kernel
theorem flip_bit (b : UInt8) (r : Nat) (hr : r < 8) : ∃ v : UInt8, bits .xor .u8 (b.toNat : Int) ((2 : Int) ^ r % 256) = (v.toNat : Int) ∧ v ≠ b := by
  obtain ⟨h1, h2, h3⟩ := flip_all b.toNat b.toNat_lt r hr
  have e : (UInt8.ofNat (b.toNat ^^^ 2 ^ r)).toNat = b.toNat ^^^ 2 ^ r := by rw [UInt8.toNat_ofNat', Nat.mod_eq_of_lt (by simpa using h2)]
  refine ⟨UInt8.ofNat (b.toNat ^^^ 2 ^ r), by rw [e, h1], fun h => h3 ?_⟩
  rw [← e, h]
def CutAt (l : List (List UInt8)) (N n : Nat) (w : World) (gk : Nat) (a b : Value) (wx : World) : Prop :=
  ∃ k : Nat, k + gk = n ∧ a = .int .i64 (k : Int) ∧ b = .int .i64 (en l k : Int) ∧ en l k ≤ N ∧ wx = w
set_option linter.unusedSimpArgs false in
set_option maxRecDepth 100000 in
set_option maxHeartbeats 8000000 in
theorem frows_any (l : List (List UInt8)) (A : Option Addr) (c : Nat) (hlc : l.length ≤ c) (cut bit : Nat) (hcut : cut < 4294967296) (hbit : bit < 4294967296) (w : World) (hr : Reads w w.heap.size 1 A l.length (sv l)) :
    Calls Try.prog 7 #[.slice A l.length c, .int .u32 (cut : Int), .int .u32 (bit : Int)] w fun e w' => e = .returned (.bool true) ∧ Below w.heap.size w w' := by
  obtain ⟨i0, hi, hz0, hz1, hz2⟩ := info_parts info_int3
  by_cases h20 : 20 < l.length
  · have h202 : (20 : Int) < (l.length : Int) := by omega
    go_enter Try.func7, Try.ntmps7
    go_wp2_with fail
    refine (wakes3_any _).mono ?_; rintro e w' ⟨rfl, hb⟩
    go_wp2_with fail
    go_ret
    exact ⟨rfl, hb⟩
  have h202 : ¬ (20 : Int) < (l.length : Int) := by omega
  generalize hln : l.length = n at *
  have HLN := Lib.hid hln
  clear hln
  go_enter Try.func7, Try.ntmps7
  go_wp2_with fail
  go_loopg [7, 8, 9] n (fun gk b ev i wr => RowAt w l gk b ev i wr)
  case atStart => exact ⟨0, by rw [HLN.out]; omega, rfl, by intro x hx; simp at hx, World.ownsRow_nil _ _ _ _, World.ownsRow_nil _ _ _ _, Below.refl _ _⟩
  case round =>
    obtain ⟨k, hk, rfl, hfine, hown, hoe, hB⟩ := hrel
    rw [HLN.out] at hk
    by_cases h8 : k < n
    · have hk8 : (k : Int) < (n : Int) := by omega
      obtain ⟨ad, x, rfl, hadb, hx, d1⟩ := str_at (hr.below hB) h8
      have hxz := size_str x
      by_cases hx0 : x = []
      · subst hx0
        go_wp2_with fail
        refine (wakes3_any _).mono ?_; rintro e w' ⟨rfl, hb⟩
        go_wp2_with fail
        go_ret
        exact ⟨rfl, hB.trans (hb.mono hB.size)⟩
      have hxe : (x == []) = false := beq_eq_false_iff_ne.2 hx0
      have hx1 : 0 < x.length := List.length_pos_iff.2 hx0
      clear hx0
      by_cases hx2 : 200 < x.length
      · have hx3 : (200 : Int) < (x.length : Int) := by omega
        go_wp2_with fail
        refine (wakes3_any _).mono ?_; rintro e w' ⟨rfl, hb⟩
        go_wp2_with fail
        go_ret
        exact ⟨rfl, hB.trans (hb.mono hB.size)⟩
      have hx3 : ¬ (200 : Int) < (x.length : Int) := by omega
      have hle := allB_le (l.take k) hfine
      rw [List.length_take, HLN.out] at hle
      have hsucc := allB_take_succ l k x hx
      have hen := en_eq l (k + 1)
      rw [hsucc] at hen
      have hev := endsV_succ l k
      have hfine2 : Fine (l.take (k + 1)) := by
        rw [List.take_add_one, hx]
        intro y hy
        rcases List.mem_append.1 hy with hy | hy
        · exact hfine y hy
        · simp at hy; subst hy; exact ⟨hx1, by omega⟩
      have hfl := small_len x (by omega)
      have hP := fun A1 c1 W hW => fput_ok A1 c1 (allB (l.take k)) x (by omega) hx1 (by omega) W hW
      rw [← hsucc] at hP hen
      have hlen : (allB (l.take (k + 1))).length = (allB (l.take k)).length + 9 + x.length := by rw [hsucc, List.length_append, hfl]; omega
      generalize hb2 : allB (l.take (k + 1)) = B2 at *
      have HB2 := Lib.hid hb2
      clear hb2
      generalize allB (l.take k) = B1 at *
      have HP := Lib.hid hP
      have HEV := Lib.hid hev
      have HEN := Lib.hid hen
      have HF := Lib.hid hfine2
      have HX := Lib.hid hx
      generalize hn1 : B1.length = n1 at *
      generalize hn2 : B2.length = n2 at *
      have HN1 := Lib.hid hn1
      have HN2 := Lib.hid hn2
      have hcmp : ¬ (n2 : Int) < (n1 : Int) + 9 + (x.length : Int) := by omega
      have hn2b : n2 ≤ 1000000 := by omega
      clear hP hev hen hfine2 hfine hsucc hfl hx hn1 hn2 hlen
      obtain ⟨A1, c1, rfl, r1⟩ := own_slice1 hown
      have HP1 := Lib.hid (HP.out A1 c1 wr r1)
      clear r1 hown HP
      go_wp2_with fail
      refine HP1.out.mono ?_; rintro e w2 ⟨v2, rfl, own2, Bw2⟩
      rw [HN2.out] at own2
      obtain ⟨A2, c2, rfl, r2⟩ := own_slice1 own2
      have d2 := (Bw2.cell (p := ad.add k) (by rw [block_of_add]; have := hB.size; omega)).trans d1
      have hoe2 := own_below hoe Bw2
      have hB2 := hB.trans (Bw2.mono hB.size)
      clear r2
      go_wp2_with (at_builtin; go_must (refine wpList_append_own _ rfl (.tmp 71) (.tmp 74) 60 rfl w.heap.size 3 i0 (.int .i64 0) 1 8 Try.underlying60 hi hz0 hz1 hz2 rfl (by decide) _ _ _ rfl (hoe2.alloc _) ⟨w2.heap.size, 0, none⟩ 1 1 [.int .i64 (n2 : Int)] rfl rfl (cell_one_new _ _ _) (by simp [Value.oneCell']) (by unfold maxLen; omega) (by omega) (by have := hB2.size; simp; omega) ?_); intro v3 w3 hown3 hgrow3 _)
      have hB3 := own_step hoe2 hB2 hB2.size hgrow3
      have own3 := ((own_base own2 hB.size).alloc (.cells #[.int .i64 (n2 : Int)] 3)).kept hgrow3 (rows_ne own2 hoe2 (by decide))
      go_roundg (n - (k + 1))
      case measure => omega
      case rel =>
        refine ⟨k + 1, by rw [HLN.out]; omega, by go_num, HF.out, ?_, ?_, hB3⟩
        · rw [HB2.out, HN2.out]; exact own3
        · rw [HEV.out, HEN.out]; exact hown3
    · obtain rfl : k = n := by omega
      have htk : l.take k = l := List.take_of_length_le (by rw [HLN.out]; exact Nat.le_refl _)
      rw [htk] at hfine hown
      have hle := allB_le l hfine
      rw [HLN.out] at hle
      generalize hbl : (allB l).length = m at *
      have HBL := Lib.hid hbl
      clear hbl htk
      obtain ⟨A1, c1, rfl, hc1, r1⟩ := own_slice1c hown
      obtain ⟨A3, c3, rfl, hc3, r3⟩ := own_slice1c hoe
      obtain ⟨N, hN1, hN2, hNm⟩ : ∃ N : Nat, (cut : Int) % ((m : Int) + 1) = (N : Int) ∧ Int.tmod (cut : Int) ((m : Int) + 1) = (N : Int) ∧ N ≤ m := ⟨cut % (m + 1), by rw [Int.natCast_emod]; rfl, by
        rw [Int.tmod_eq_emod_of_nonneg (by omega), Int.natCast_emod]; rfl, by have := Nat.mod_lt cut (show 0 < m + 1 by omega); omega⟩
      go_wp2_with fail
      obtain ⟨w0, hw0⟩ : ∃ w0 : World, w0 = wr := ⟨_, rfl⟩
      subst hw0
      go_loopg [13, 14] k (fun gk a b wx => CutAt l N k w0 gk a b wx)
      case atStart => exact ⟨0, by omega, rfl, by rw [en_eq]; rfl, by rw [en_eq]; simp [allB], rfl⟩
      case round =>
        obtain ⟨k2, hk2, rfl, rfl, hen, rfl⟩ := hrel
        by_cases hnext : k2 < k ∧ en l (k2 + 1) ≤ N
        · obtain ⟨hlt, hle2⟩ := hnext
          obtain ⟨ad3, rfl, _, d3⟩ := end_at r3 hlt
          have hlt2 : (k2 : Int) < (k : Int) := by omega
          generalize hee : en l (k2 + 1) = e1 at *
          have HEE := Lib.hid hee
          clear hee hen
          go_wp2_with fail
          go_roundg (k - (k2 + 1))
          case measure => omega
          case rel => exact ⟨k2 + 1, by omega, by go_num, by rw [HEE.out], by rw [HEE.out]; exact hle2, rfl⟩
        · have hcuts := row_cut l hfine k2 N (by rw [← en_eq]; exact hen) (by rw [HBL.out]; exact hNm) (fun h => by rw [HLN.out] at h; rw [← en_eq]; omega)
          rw [← en_eq] at hcuts
          obtain ⟨hs1, hs2, hs3⟩ := hcuts
          obtain ⟨y, hy⟩ : ∃ y, (if en l k2 = N then 0 else 3) = y := ⟨_, rfl⟩
          rw [hy] at hs3
          have hlk : (l.take k2).length = k2 := by rw [List.length_take, HLN.out]; omega
          have HS := Lib.hid (fun W => split_eq _ (by rw [List.length_take]; omega) _ k2 _ y hlk hs1 hs2 hs3 W)
          obtain ⟨A5, c5, hsl1, _, r5⟩ := bytes_to r1 hNm hc1
          have hcv := conv_str Try.underlying40 Try.underlying5 Try.underlying9 c5 r5
          obtain ⟨A6, c6, hsl2, r6⟩ := strs_to hr (show k2 ≤ k by omega) hlc
          have hrw := (r6.below hB).more hB.size
          have HLK := Lib.hid hlk
          have HO := Lib.hid (show (k2 < k ∧ N < en l (k2 + 1)) ∨ k2 = k by omega)
          have HY := Lib.hid hy
          generalize (allB l).take N = P at *
          clear hs1 hs2 hs3 hnext hlk hy r5 r6 hk2 hen
          generalize hee : en l k2 = e0 at *
          have HEE := Lib.hid hee
          clear hee
          rcases HO.out with ⟨hlt, hlN⟩ | hkk
          · obtain ⟨ad3, rfl, _, d3⟩ := end_at r3 hlt
            have hlt2 : (k2 : Int) < (k : Int) := by omega
            have hlN2 : ¬ (en l (k2 + 1) : Int) ≤ (N : Int) := by omega
            clear HO
            go_wp2_with fail
            refine (HS.out _).mono ?_; rintro e w2 ⟨v2, rfl, own2, B2⟩
            obtain ⟨A7, c7, rfl, r7⟩ := own_slice1 own2
            have hsame := same_eq (l.take k2) k2 HLK.out (by omega) A7 A6 c7 c6 w2 r7 ((hrw.below B2).more B2.size)
            have HSA := Lib.hid hsame
            clear hsame own2 r7
            go_upto_region 21 with fail
            go_cut [136] (fun s136 wx => s136 = .bool false ∧ Below wr.heap.size wr wx)
            case first =>
              by_cases hq : e0 = N
              · have hy0 : y = 0 := by have := HY.out; rw [if_pos hq] at this; omega
                subst hy0
                subst hq
                go_wp2_with fail
                refine HSA.out.mono ?_; rintro e w3 ⟨rfl, B3⟩
                go_wp2_with fail
                go_meet
                exact ⟨rfl, B2.trans (B3.mono B2.size)⟩
              · have hy3 : y = 3 := by have := HY.out; rw [if_neg hq] at this; omega
                subst hy3
                have hq1 : ((e0 : Int) == (N : Int)) = false := beq_eq_false_iff_ne.2 (by omega)
                have hq2 : ((e0 : Int) != (N : Int)) = true := by rw [bne_iff_ne]; omega
                clear hq
                go_wp2_with fail
                refine HSA.out.mono ?_; rintro e w3 ⟨rfl, B3⟩
                go_wp2_with fail
                go_meet
                exact ⟨rfl, B2.trans (B3.mono B2.size)⟩
            case rest =>
              obtain ⟨rfl, hBc⟩ := hcut
              have hownc := own_below hown hBc
              have hoec := own_below hoe hBc
              have hBw := hB.trans (hBc.mono hB.size)
              obtain ⟨A8, c8, he8, r3c⟩ := own_slice1 hoec
              injection he8 with he8 _ _
              subst he8
              clear hown hoe hB hBc r1 r3 hcv hsl1 hsl2 hrw HS HSA B2
              by_cases hk0 : k = 0
              · have hkz : ((k : Int) == 0) = true := by rw [hk0]; rfl
                clear hk0
                go_wp2_with fail
                refine (wakes3_any _).mono ?_; rintro e w9 ⟨rfl, B9⟩
                go_wp2_with fail
                go_ret
                exact ⟨rfl, hBw.trans (B9.mono hBw.size)⟩
              have hkz : ((k : Int) == 0) = false := beq_eq_false_iff_ne.2 (by omega)
              obtain ⟨I, hI1, hI2, hIk⟩ : ∃ I : Nat, (bit : Int) % (k : Int) = (I : Int) ∧ Int.tmod (bit : Int) (k : Int) = (I : Int) ∧ I < k := ⟨bit % k, by rw [Int.natCast_emod], by
                rw [Int.tmod_eq_emod_of_nonneg (by omega), Int.natCast_emod], Nat.mod_lt bit (by omega)⟩
              obtain ⟨ad, x, rfl, _, hx, dI⟩ := str_at (hr.below hBw) hIk
              obtain ⟨ad4, he4, _, dE⟩ := end_at r3c hIk
              cases he4
              obtain ⟨hx1, hx2⟩ := hfine x (List.mem_of_getElem? hx)
              have hxz := size_str x
              have hen1 := en_eq l (I + 1)
              rw [allB_take_succ l I x hx, List.length_append, small_len x hx2, ← en_eq] at hen1
              have henm := allB_take_le l (I + 1)
              rw [← en_eq, HBL.out] at henm
              generalize hnx : x.length = nx at *
              generalize hf1 : en l (I + 1) = f1 at *
              obtain ⟨K, hK1, hK2, hKl⟩ : ∃ K : Nat, ((bit / 20 : Nat) : Int) % (8 * (8 + (nx : Int))) = (K : Int) ∧ Int.tmod ((bit / 20 : Nat) : Int) (8 * (8 + (nx : Int))) = (K : Int) ∧ K < 8 * (8 + nx) := ⟨bit / 20 % (8 * (8 + nx)), by rw [Int.natCast_emod]; rfl, by
                rw [Int.tmod_eq_emod_of_nonneg (by omega), Int.natCast_emod]; rfl, Nat.mod_lt _ (by omega)⟩
              have hQ1 : (bit : Int) / 20 = ((bit / 20 : Nat) : Int) := by omega
              have hQ2 : Int.tdiv (bit : Int) 20 = ((bit / 20 : Nat) : Int) := by rw [Int.tdiv_eq_ediv_of_nonneg (by omega)]; omega
              generalize hQ : bit / 20 = Q at *
              have hQb : Q < 4294967296 := by omega
              clear hQ
              obtain ⟨j, r, hj, hjr, hr8⟩ : ∃ j r : Nat, K = 8 * j + r ∧ j < 8 + nx ∧ r < 8 := ⟨K / 8, K % 8, by omega, by omega, by omega⟩
              have hd1 : (K : Int) / 8 = (j : Int) := by omega
              have hd2 : Int.tdiv (K : Int) 8 = (j : Int) := by rw [Int.tdiv_eq_ediv_of_nonneg (by omega)]; omega
              have hm1 : (K : Int) % 8 = (r : Int) := by omega
              have hm2 : Int.tmod (K : Int) 8 = (r : Int) := by rw [Int.tmod_eq_emod_of_nonneg (by omega)]; omega
              generalize hf0 : en l I = f0 at *
              have HF0 := Lib.hid hf0
              have hF : (f1 : Int) - (nx : Int) - 8 = ((f0 + 1 : Nat) : Int) := by omega
              have hJ : ((f0 + 1 : Nat) : Int) + (j : Int) = ((f0 + 1 + j : Nat) : Int) := by omega
              have hJm : f0 + 1 + j < m := by omega
              generalize hFF : f0 + 1 = F at *
              generalize hJJ : F + j = J at *
              obtain ⟨g, cap, hgv, hcap⟩ : ∃ g cap, A1 = some ⟨g, 0, none⟩ ∧ c1 = cap := by
                rcases hownc.2 with ⟨hv, h0⟩ | ⟨g, cap, cur, hv, _⟩
                · omega
                · injection hv with h1 h2 h3
                  exact ⟨g, cap, h1, h3⟩
              subst hgv
              subst hcap
              have hJl : J < (allB l).length := by rw [HBL.out]; exact hJm
              obtain ⟨v0, hv0⟩ : ∃ v0, (allB l)[J]? = some v0 := ⟨_, List.getElem?_eq_getElem hJl⟩
              have dJ : wc.cell? ⟨g, J, none⟩ = some (.int .u8 (v0.toNat : Int)) := by
                have h := hownc.cells (g := g) rfl J (.int .u8 (v0.toNat : Int)) (by unfold bv; rw [List.getElem?_map, hv0]; rfl)
                have e2 : (⟨g, 0, none⟩ : Addr).add J = ⟨g, J, none⟩ := by
                  unfold Addr.add
                  split
                  · rename_i h0; subst h0; rfl
                  · simp
                rwa [e2] at h
              have fJ : wc.frozen? ⟨g, J, none⟩ = false := hownc.frozenAt J
              have hvl := v0.toNat_lt
              obtain ⟨v, hvx, hvne⟩ := flip_bit v0 r hr8
              have hvx2 : bits .xor .u8 (v0.toNat : Int) (IntKind.u8.wrap ((2 : Int) ^ r)) = (v.toNat : Int) := by rw [IntKind.wrap_u8]; exact hvx
              have HVX := Lib.hid hvx2
              clear hvx hvx2
              have hIl : I < l.length := by rw [HLN.out]; exact hIk
              have hlI : l[I] = x := by
                rw [List.getElem?_eq_getElem hIl] at hx
                exact Option.some.inj hx
              have hJe : (allB (l.take I)).length + 1 + j = J := by rw [← en_eq, hf0, hFF, hJJ]
              have hrt := row_turned l hfine I j hIl (by rw [hlI, hnx]; omega) v (by rw [hJe, hv0]; exact fun h => hvne (Option.some.inj h).symm)
              rw [hJe, ← en_eq, hf0] at hrt
              obtain ⟨ht1, ht2, ht3⟩ := hrt
              have hlt9 : (l.take I).length = I := by rw [List.length_take, HLN.out]; omega
              have HS2 := Lib.hid (fun W => split_eq ((allB l).set J v) (by rw [List.length_set, HBL.out]; omega) (l.take I) I f0 5 hlt9 ht1 ht2 ht3 W)
              have HL9 := Lib.hid hlt9
              obtain ⟨A9, c9, hsl9, r9⟩ := strs_to hr (show I ≤ k by omega) hlc
              obtain ⟨hst, hsg⟩ := hownc.stored J (.int .u8 (v.toNat : Int))
              have hgb : w.heap.size ≤ g := (hownc.lt g rfl).1
              have hoes := hoec.kept hsg (rows_ne hoec hownc (by decide))
              have hBs := (hBw.setCell (p := ⟨g, J, none⟩) hgb (.int .u8 (v.toNat : Int))).drew.drew
              have hset : (bv (allB l)).set J (.int .u8 (v.toNat : Int)) = bv ((allB l).set J v) := by unfold bv; rw [List.map_set]; rfl
              rw [hset] at hst
              have rd := ((Reads.of_own hst).drew).drew
              have hcd := conv_str Try.underlying40 Try.underlying5 Try.underlying9 c1 rd
              clear hIl hlI hJe ht1 ht2 ht3 hlt9 hvne hset hst hsg rd
              generalize (allB l).set J v = P2 at *
              have HX := Lib.hid hx
              have HV := Lib.hid hv0
              have hJm2 : (J : Int) < (m : Int) := by omega
              have hIk2 : (I : Int) < (k : Int) := by omega
              have hFw : IntKind.i64.wrap (IntKind.i64.wrap ((f1 : Int) - (nx : Int)) - 8) = (F : Int) := by
                rw [← hF, IntKind.wrap_i64, IntKind.wrap_i64]; omega
              have hq1 : IntKind.i64.wrap (Int.tdiv (K : Int) 8) = (j : Int) := by rw [hd2, IntKind.wrap_i64]; omega
              have hq2 : IntKind.i64.wrap ((K : Int) / 8) = (j : Int) := by rw [hd1, IntKind.wrap_i64]; omega
              have hq3 : IntKind.i64.wrap (Int.tmod (K : Int) 8) = (r : Int) := by rw [hm2, IntKind.wrap_i64]; omega
              have hjw : IntKind.i64.wrap (j : Int) = (j : Int) := by rw [IntKind.wrap_i64]; omega
              have hrw2 : IntKind.i64.wrap (r : Int) = (r : Int) := by rw [IntKind.wrap_i64]; omega
              have hJJw : IntKind.i64.wrap (J : Int) = (J : Int) := by rw [IntKind.wrap_i64]; omega
              have hJw : IntKind.i64.wrap ((F : Int) + (j : Int)) = (J : Int) := by rw [hJ, IntKind.wrap_i64]; omega
              clear hx hv0 hjr hj hnx hf1 hf0 hFF hJJ hen1 henm hKl
              go_wp2_with fail
              go_region_held_law (fun W => W.cell? (ad3.add I) = some (.int .i64 (f1 : Int)) ∧ W.cell? (ad.add I) = some (.string ⟨x.toArray⟩)) (exact ⟨dE, dI⟩) (fail)
              go_wp2_with fail
              refine wp_region_held_drew (S := fun _ => True) (by kernel_rfl) (trivial) (fun hHeld => ?_)
              refine take1 (i := 0) (d := 168) (v := ?_) rfl (by kernel_rfl) (by kernel_rfl) (by kernel_rfl) rfl (fun _ _ _ h => h) (Or.inl ⟨by rfl, ?_⟩) (by assumption) ?_
              rotate_left
              · (intro w hSw; (try dsimp only at hSw); go_simp); with_reducible rfl
              simp only [List.set_cons_zero, List.set_cons_succ]
              refine take1 (i := 1) (d := 169) (v := ?_) rfl (by kernel_rfl) (by kernel_rfl) (by kernel_rfl) rfl (fun _ _ _ h => h) (Or.inl ⟨by rfl, ?_⟩) (by assumption) ?_
              rotate_left
              · (intro w hSw; (try dsimp only at hSw); go_simp); with_reducible rfl
              simp only [List.set_cons_zero, List.set_cons_succ]
              refine take1 (i := 2) (d := 170) (v := ?_) rfl (by kernel_rfl) (by kernel_rfl) (by kernel_rfl) rfl (fun _ _ _ h => h) (Or.inl ⟨by rfl, ?_⟩) (by assumption) ?_
              rotate_left
              · (intro w hSw; (try dsimp only at hSw); go_simp); with_reducible rfl
              simp only [List.set_cons_zero, List.set_cons_succ]
              refine take1 (i := 3) (d := 171) (v := ?_) rfl (by kernel_rfl) (by kernel_rfl) (by kernel_rfl) rfl (fun _ _ _ h => h) (Or.inl ⟨by rfl, ?_⟩) (by assumption) ?_
              rotate_left
              · (intro w hSw; (try dsimp only at hSw); go_simp); with_reducible rfl
              simp only [List.set_cons_zero, List.set_cons_succ]
              refine take1 (i := 4) (d := 172) (v := ?_) rfl (by kernel_rfl) (by kernel_rfl) (by kernel_rfl) rfl (fun _ _ _ h => h) (Or.inl ⟨by rfl, ?_⟩) (by assumption) ?_
              rotate_left
              · (intro w hSw; (try dsimp only at hSw); go_simp); with_reducible rfl
              simp only [List.set_cons_zero, List.set_cons_succ]
              refine take1 (i := 5) (d := 173) (v := ?_) rfl (by kernel_rfl) (by kernel_rfl) (by kernel_rfl) rfl (fun _ _ _ h => h) (Or.inl ⟨by rfl, ?_⟩) (by assumption) ?_
              rotate_left
              · (intro w hSw; (try dsimp only at hSw); go_simp); with_reducible rfl
              simp only [List.set_cons_zero, List.set_cons_succ]
              refine take1 (i := 6) (d := 174) (v := ?_) rfl (by kernel_rfl) (by kernel_rfl) (by kernel_rfl) rfl (fun _ _ _ h => h) (Or.inl ⟨by rfl, ?_⟩) (by assumption) ?_
              rotate_left
              · (intro w hSw; (try dsimp only at hSw); go_simp); with_reducible rfl
              simp only [List.set_cons_zero, List.set_cons_succ]
              refine take1 (i := 7) (d := 175) (v := ?_) rfl (by kernel_rfl) (by kernel_rfl) (by kernel_rfl) rfl (fun _ _ _ h => h) (Or.inl ⟨by rfl, ?_⟩) (by assumption) ?_
              rotate_left
              · (intro w hSw; (try dsimp only at hSw); go_simp); with_reducible rfl
              simp only [List.set_cons_zero, List.set_cons_succ]
              refine take1 (i := 8) (d := 176) (v := ?_) rfl (by kernel_rfl) (by kernel_rfl) (by kernel_rfl) rfl (fun _ _ _ h => h) (Or.inl ⟨by rfl, ?_⟩) (by assumption) ?_
              rotate_left
              · (intro w hSw; (try dsimp only at hSw); go_simp); with_reducible rfl
              simp only [List.set_cons_zero, List.set_cons_succ]
              refine take1 (i := 9) (d := 177) (v := ?_) rfl (by kernel_rfl) (by kernel_rfl) (by kernel_rfl) rfl (fun _ _ _ h => h) (Or.inl ⟨by rfl, ?_⟩) (by assumption) ?_
              rotate_left
              · (intro w hSw; (try dsimp only at hSw); go_simp); with_reducible rfl
              simp only [List.set_cons_zero, List.set_cons_succ]
              refine take1 (i := 10) (d := 178) (v := ?_) rfl (by kernel_rfl) (by kernel_rfl) (by kernel_rfl) rfl (fun _ _ _ h => h) (Or.inl ⟨by rfl, ?_⟩) (by assumption) ?_
              rotate_left
              · (intro w hSw; (try dsimp only at hSw); go_simp); with_reducible rfl
              simp only [List.set_cons_zero, List.set_cons_succ]
              refine take1 (i := 12) (d := 180) (v := ?_) rfl (by kernel_rfl) (by kernel_rfl) (by kernel_rfl) rfl (fun _ _ _ h => h) (Or.inl ⟨by rfl, ?_⟩) (by assumption) ?_
              rotate_left
              · (intro w hSw; (try dsimp only at hSw); go_simp); with_reducible rfl
              simp only [List.set_cons_zero, List.set_cons_succ]
              refine take1 (i := 13) (d := 181) (v := ?_) rfl (by kernel_rfl) (by kernel_rfl) (by kernel_rfl) rfl (fun _ _ _ h => h) (Or.inl ⟨by rfl, ?_⟩) (by assumption) ?_
              rotate_left
              · (intro w hSw; (try dsimp only at hSw); go_simp); with_reducible rfl
              simp only [List.set_cons_zero, List.set_cons_succ]
              refine take1 (i := 14) (d := 182) (v := ?_) rfl (by kernel_rfl) (by kernel_rfl) (by kernel_rfl) rfl (fun _ _ _ h => h) (Or.inl ⟨by rfl, ?_⟩) (by assumption) ?_
              rotate_left
              · (intro w hSw; (try dsimp only at hSw); go_simp); with_reducible rfl
              simp only [List.set_cons_zero, List.set_cons_succ]
              refine wpAnyH_ready (rs := [11]) (by kernel_rfl) (by simp) (AllReadyH.cons rfl (fun Kreg hKreg => ?_) AllReadyH.nil)
              go_simp
              skip
              go_wp2_with fail
              refine hKreg.out _ _ (trivial) (fun hHeld => ?_)
              clear hKreg Kreg
              try simp only [Act.put, List.setIfInBounds_toArray, List.set_cons_zero, List.set_cons_succ]
              refine take1 (i := 15) (d := 183) (v := ?_) rfl (by kernel_rfl) (by kernel_rfl) (by kernel_rfl) rfl (fun _ _ _ h => h) (Or.inl ⟨by rfl, ?_⟩) (by assumption) ?_
              rotate_left
              · (intro w hSw; (try dsimp only at hSw); go_simp); with_reducible rfl
              simp only [List.set_cons_zero, List.set_cons_succ]
              refine take1 (i := 16) (d := 184) (v := ?_) rfl (by kernel_rfl) (by kernel_rfl) (by kernel_rfl) rfl (fun _ _ _ h => h) (Or.inl ⟨by rfl, ?_⟩) (by assumption) ?_
              rotate_left
              · (intro w hSw; (try dsimp only at hSw); go_simp); with_reducible rfl
              simp only [List.set_cons_zero, List.set_cons_succ]
              refine wpAnyH_ready (rs := [17]) (by kernel_rfl) (by simp) (AllReadyH.cons rfl (fun Kreg hKreg => ?_) AllReadyH.nil)
              go_simp
              skip
              go_wp2_with fail
              refine hKreg.out _ _ (trivial) (fun hHeld => ?_)
              clear hKreg Kreg
              try simp only [Act.put, List.setIfInBounds_toArray, List.set_cons_zero, List.set_cons_succ]
              refine wpAnyH_done (by kernel_rfl) ?_ _
              rw [HVX.out]
              have hoed : ((wc.setCell ⟨g, J, none⟩ (.int .u8 (v.toNat : Int))).drew.drew).ownsRow w.heap.size 3 1 _ k (endsV l k) := hoes
              generalize ((wc.setCell ⟨g, J, none⟩ (.int .u8 (v.toNat : Int))).drew.drew) = wd at *
              go_wp2_with fail
              refine (HS2.out _).mono ?_; rintro e w5 ⟨v5, rfl, own5, B5⟩
              obtain ⟨A10, c10, rfl, r10⟩ := own_slice1 own5
              have hB5 := hBs.trans (B5.mono hBs.size)
              have r11 := (r9.below hB5).more hB5.size
              have hsame2 := same_eq (l.take I) I HL9.out (by omega) A10 A9 c10 c9 w5 r10 r11
              have HSA2 := Lib.hid hsame2
              have hoe5 := own_below hoed B5
              clear hsame2 own5 r10 r11 r9 B5 hBs hoed hcd
              go_wp2_with fail
              refine HSA2.out.mono ?_; rintro e w6 ⟨rfl, B6⟩
              have hB6 := hB5.trans (B6.mono hB5.size)
              have hoe6 := own_below hoe5 B6
              obtain ⟨A11, c11, he11, r11⟩ := own_slice1 hoe6
              injection he11 with he11 _ _
              subst he11
              clear hoe5 hoe6 B6 hB5 HSA2
              by_cases hI0 : I = 0
              · have hIz : ((I : Int) == 0) = true := by rw [hI0]; rfl
                have hIg : ¬ (0 : Int) < (I : Int) := by omega
                have hfz : ((f0 : Int) == 0) = true := by
                  have h0 : f0 = 0 := by rw [← HF0.out, hI0, en_eq]; simp [allB]
                  rw [h0]; rfl
                clear hI0
                go_wp2_with fail
                refine (wakes3_any _).mono ?_; rintro e w9 ⟨rfl, B9⟩
                go_wp2_with fail
                go_ret
                exact ⟨rfl, hB6.trans (B9.mono hB6.size)⟩
              · have hIz : ((I : Int) == 0) = false := beq_eq_false_iff_ne.2 (by omega)
                have hIg : (0 : Int) < (I : Int) := by omega
                obtain ⟨I1, hI1e⟩ : ∃ I1 : Nat, I = I1 + 1 := ⟨I - 1, by omega⟩
                obtain ⟨ad5, he5, _, dE5⟩ := end_at r11 (k := I1) (by omega)
                cases he5
                rw [← hI1e, HF0.out] at dE5
                have hIm : (I : Int) - 1 = (I1 : Int) := by omega
                have hIk1 : (I1 : Int) < (k : Int) := by omega
                clear hI0 hI1e
                go_wp2_with fail
                refine (wakes3_any _).mono ?_; rintro e w9 ⟨rfl, B9⟩
                go_wp2_with fail
                go_ret
                exact ⟨rfl, hB6.trans (B9.mono hB6.size)⟩
          · have hkk2 := hkk.symm
            clear hkk HO
            subst hkk2
            go_wp2_with fail
            refine (HS.out _).mono ?_; rintro e w2 ⟨v2, rfl, own2, B2⟩
            obtain ⟨A7, c7, rfl, r7⟩ := own_slice1 own2
            have hsame := same_eq (l.take k) k HLK.out (by omega) A7 A6 c7 c6 w2 r7 ((hrw.below B2).more B2.size)
            have HSA := Lib.hid hsame
            clear hsame own2 r7
            go_upto_region 21 with fail
            go_cut [136] (fun s136 wx => s136 = .bool false ∧ Below wr.heap.size wr wx)
            case first =>
              by_cases hq : e0 = N
              · have hy0 : y = 0 := by have := HY.out; rw [if_pos hq] at this; omega
                subst hy0
                subst hq
                go_wp2_with fail
                refine HSA.out.mono ?_; rintro e w3 ⟨rfl, B3⟩
                go_wp2_with fail
                go_meet
                exact ⟨rfl, B2.trans (B3.mono B2.size)⟩
              · have hy3 : y = 3 := by have := HY.out; rw [if_neg hq] at this; omega
                subst hy3
                have hq1 : ((e0 : Int) == (N : Int)) = false := beq_eq_false_iff_ne.2 (by omega)
                have hq2 : ((e0 : Int) != (N : Int)) = true := by rw [bne_iff_ne]; omega
                clear hq
                go_wp2_with fail
                refine HSA.out.mono ?_; rintro e w3 ⟨rfl, B3⟩
                go_wp2_with fail
                go_meet
                exact ⟨rfl, B2.trans (B3.mono B2.size)⟩
            case rest =>
              obtain ⟨rfl, hBc⟩ := hcut
              have hownc := own_below hown hBc
              have hoec := own_below hoe hBc
              have hBw := hB.trans (hBc.mono hB.size)
              obtain ⟨A8, c8, he8, r3c⟩ := own_slice1 hoec
              injection he8 with he8 _ _
              subst he8
              clear hown hoe hB hBc r1 r3 hcv hsl1 hsl2 hrw HS HSA B2
              by_cases hk0 : k = 0
              · have hkz : ((k : Int) == 0) = true := by rw [hk0]; rfl
                clear hk0
                go_wp2_with fail
                refine (wakes3_any _).mono ?_; rintro e w9 ⟨rfl, B9⟩
                go_wp2_with fail
                go_ret
                exact ⟨rfl, hBw.trans (B9.mono hBw.size)⟩
              have hkz : ((k : Int) == 0) = false := beq_eq_false_iff_ne.2 (by omega)
              obtain ⟨I, hI1, hI2, hIk⟩ : ∃ I : Nat, (bit : Int) % (k : Int) = (I : Int) ∧ Int.tmod (bit : Int) (k : Int) = (I : Int) ∧ I < k := ⟨bit % k, by rw [Int.natCast_emod], by
                rw [Int.tmod_eq_emod_of_nonneg (by omega), Int.natCast_emod], Nat.mod_lt bit (by omega)⟩
              obtain ⟨ad, x, rfl, _, hx, dI⟩ := str_at (hr.below hBw) hIk
              obtain ⟨ad4, he4, _, dE⟩ := end_at r3c hIk
              cases he4
              obtain ⟨hx1, hx2⟩ := hfine x (List.mem_of_getElem? hx)
              have hxz := size_str x
              have hen1 := en_eq l (I + 1)
              rw [allB_take_succ l I x hx, List.length_append, small_len x hx2, ← en_eq] at hen1
              have henm := allB_take_le l (I + 1)
              rw [← en_eq, HBL.out] at henm
              generalize hnx : x.length = nx at *
              generalize hf1 : en l (I + 1) = f1 at *
              obtain ⟨K, hK1, hK2, hKl⟩ : ∃ K : Nat, ((bit / 20 : Nat) : Int) % (8 * (8 + (nx : Int))) = (K : Int) ∧ Int.tmod ((bit / 20 : Nat) : Int) (8 * (8 + (nx : Int))) = (K : Int) ∧ K < 8 * (8 + nx) := ⟨bit / 20 % (8 * (8 + nx)), by rw [Int.natCast_emod]; rfl, by
                rw [Int.tmod_eq_emod_of_nonneg (by omega), Int.natCast_emod]; rfl, Nat.mod_lt _ (by omega)⟩
              have hQ1 : (bit : Int) / 20 = ((bit / 20 : Nat) : Int) := by omega
              have hQ2 : Int.tdiv (bit : Int) 20 = ((bit / 20 : Nat) : Int) := by rw [Int.tdiv_eq_ediv_of_nonneg (by omega)]; omega
              generalize hQ : bit / 20 = Q at *
              have hQb : Q < 4294967296 := by omega
              clear hQ
              obtain ⟨j, r, hj, hjr, hr8⟩ : ∃ j r : Nat, K = 8 * j + r ∧ j < 8 + nx ∧ r < 8 := ⟨K / 8, K % 8, by omega, by omega, by omega⟩
              have hd1 : (K : Int) / 8 = (j : Int) := by omega
              have hd2 : Int.tdiv (K : Int) 8 = (j : Int) := by rw [Int.tdiv_eq_ediv_of_nonneg (by omega)]; omega
              have hm1 : (K : Int) % 8 = (r : Int) := by omega
              have hm2 : Int.tmod (K : Int) 8 = (r : Int) := by rw [Int.tmod_eq_emod_of_nonneg (by omega)]; omega
              generalize hf0 : en l I = f0 at *
              have HF0 := Lib.hid hf0
              have hF : (f1 : Int) - (nx : Int) - 8 = ((f0 + 1 : Nat) : Int) := by omega
              have hJ : ((f0 + 1 : Nat) : Int) + (j : Int) = ((f0 + 1 + j : Nat) : Int) := by omega
              have hJm : f0 + 1 + j < m := by omega
              generalize hFF : f0 + 1 = F at *
              generalize hJJ : F + j = J at *
              obtain ⟨g, cap, hgv, hcap⟩ : ∃ g cap, A1 = some ⟨g, 0, none⟩ ∧ c1 = cap := by
                rcases hownc.2 with ⟨hv, h0⟩ | ⟨g, cap, cur, hv, _⟩
                · omega
                · injection hv with h1 h2 h3
                  exact ⟨g, cap, h1, h3⟩
              subst hgv
              subst hcap
              have hJl : J < (allB l).length := by rw [HBL.out]; exact hJm
              obtain ⟨v0, hv0⟩ : ∃ v0, (allB l)[J]? = some v0 := ⟨_, List.getElem?_eq_getElem hJl⟩
              have dJ : wc.cell? ⟨g, J, none⟩ = some (.int .u8 (v0.toNat : Int)) := by
                have h := hownc.cells (g := g) rfl J (.int .u8 (v0.toNat : Int)) (by unfold bv; rw [List.getElem?_map, hv0]; rfl)
                have e2 : (⟨g, 0, none⟩ : Addr).add J = ⟨g, J, none⟩ := by
                  unfold Addr.add
                  split
                  · rename_i h0; subst h0; rfl
                  · simp
                rwa [e2] at h
              have fJ : wc.frozen? ⟨g, J, none⟩ = false := hownc.frozenAt J
              have hvl := v0.toNat_lt
              obtain ⟨v, hvx, hvne⟩ := flip_bit v0 r hr8
              have hvx2 : bits .xor .u8 (v0.toNat : Int) (IntKind.u8.wrap ((2 : Int) ^ r)) = (v.toNat : Int) := by rw [IntKind.wrap_u8]; exact hvx
              have HVX := Lib.hid hvx2
              clear hvx hvx2
              have hIl : I < l.length := by rw [HLN.out]; exact hIk
              have hlI : l[I] = x := by
                rw [List.getElem?_eq_getElem hIl] at hx
                exact Option.some.inj hx
              have hJe : (allB (l.take I)).length + 1 + j = J := by rw [← en_eq, hf0, hFF, hJJ]
              have hrt := row_turned l hfine I j hIl (by rw [hlI, hnx]; omega) v (by rw [hJe, hv0]; exact fun h => hvne (Option.some.inj h).symm)
              rw [hJe, ← en_eq, hf0] at hrt
              obtain ⟨ht1, ht2, ht3⟩ := hrt
              have hlt9 : (l.take I).length = I := by rw [List.length_take, HLN.out]; omega
              have HS2 := Lib.hid (fun W => split_eq ((allB l).set J v) (by rw [List.length_set, HBL.out]; omega) (l.take I) I f0 5 hlt9 ht1 ht2 ht3 W)
              have HL9 := Lib.hid hlt9
              obtain ⟨A9, c9, hsl9, r9⟩ := strs_to hr (show I ≤ k by omega) hlc
              obtain ⟨hst, hsg⟩ := hownc.stored J (.int .u8 (v.toNat : Int))
              have hgb : w.heap.size ≤ g := (hownc.lt g rfl).1
              have hoes := hoec.kept hsg (rows_ne hoec hownc (by decide))
              have hBs := (hBw.setCell (p := ⟨g, J, none⟩) hgb (.int .u8 (v.toNat : Int))).drew.drew
              have hset : (bv (allB l)).set J (.int .u8 (v.toNat : Int)) = bv ((allB l).set J v) := by unfold bv; rw [List.map_set]; rfl
              rw [hset] at hst
              have rd := ((Reads.of_own hst).drew).drew
              have hcd := conv_str Try.underlying40 Try.underlying5 Try.underlying9 c1 rd
              clear hIl hlI hJe ht1 ht2 ht3 hlt9 hvne hset hst hsg rd
              generalize (allB l).set J v = P2 at *
              have HX := Lib.hid hx
              have HV := Lib.hid hv0
              have hJm2 : (J : Int) < (m : Int) := by omega
              have hIk : (I : Int) < (k : Int) := by omega
              have hFw : IntKind.i64.wrap (IntKind.i64.wrap ((f1 : Int) - (nx : Int)) - 8) = (F : Int) := by
                rw [← hF, IntKind.wrap_i64, IntKind.wrap_i64]; omega
              have hq1 : IntKind.i64.wrap (Int.tdiv (K : Int) 8) = (j : Int) := by rw [hd2, IntKind.wrap_i64]; omega
              have hq2 : IntKind.i64.wrap ((K : Int) / 8) = (j : Int) := by rw [hd1, IntKind.wrap_i64]; omega
              have hq3 : IntKind.i64.wrap (Int.tmod (K : Int) 8) = (r : Int) := by rw [hm2, IntKind.wrap_i64]; omega
              have hjw : IntKind.i64.wrap (j : Int) = (j : Int) := by rw [IntKind.wrap_i64]; omega
              have hrw2 : IntKind.i64.wrap (r : Int) = (r : Int) := by rw [IntKind.wrap_i64]; omega
              have hJJw : IntKind.i64.wrap (J : Int) = (J : Int) := by rw [IntKind.wrap_i64]; omega
              have hJw : IntKind.i64.wrap ((F : Int) + (j : Int)) = (J : Int) := by rw [hJ, IntKind.wrap_i64]; omega
              clear hx hv0 hjr hj hnx hf1 hf0 hFF hJJ hen1 henm hKl
              go_wp2_with fail
              go_region_held_law (fun W => W.cell? (ad4.add I) = some (.int .i64 (f1 : Int)) ∧ W.cell? (ad.add I) = some (.string ⟨x.toArray⟩)) (exact ⟨dE, dI⟩) (fail)
              go_wp2_with fail
              refine wp_region_held_drew (S := fun _ => True) (by kernel_rfl) (trivial) (fun hHeld => ?_)
              refine take1 (i := 0) (d := 168) (v := ?_) rfl (by kernel_rfl) (by kernel_rfl) (by kernel_rfl) rfl (fun _ _ _ h => h) (Or.inl ⟨by rfl, ?_⟩) (by assumption) ?_
              rotate_left
              · (intro w hSw; (try dsimp only at hSw); go_simp); with_reducible rfl
              simp only [List.set_cons_zero, List.set_cons_succ]
              refine take1 (i := 1) (d := 169) (v := ?_) rfl (by kernel_rfl) (by kernel_rfl) (by kernel_rfl) rfl (fun _ _ _ h => h) (Or.inl ⟨by rfl, ?_⟩) (by assumption) ?_
              rotate_left
              · (intro w hSw; (try dsimp only at hSw); go_simp); with_reducible rfl
              simp only [List.set_cons_zero, List.set_cons_succ]
              refine take1 (i := 2) (d := 170) (v := ?_) rfl (by kernel_rfl) (by kernel_rfl) (by kernel_rfl) rfl (fun _ _ _ h => h) (Or.inl ⟨by rfl, ?_⟩) (by assumption) ?_
              rotate_left
              · (intro w hSw; (try dsimp only at hSw); go_simp); with_reducible rfl
              simp only [List.set_cons_zero, List.set_cons_succ]
              refine take1 (i := 3) (d := 171) (v := ?_) rfl (by kernel_rfl) (by kernel_rfl) (by kernel_rfl) rfl (fun _ _ _ h => h) (Or.inl ⟨by rfl, ?_⟩) (by assumption) ?_
              rotate_left
              · (intro w hSw; (try dsimp only at hSw); go_simp); with_reducible rfl
              simp only [List.set_cons_zero, List.set_cons_succ]
              refine take1 (i := 4) (d := 172) (v := ?_) rfl (by kernel_rfl) (by kernel_rfl) (by kernel_rfl) rfl (fun _ _ _ h => h) (Or.inl ⟨by rfl, ?_⟩) (by assumption) ?_
              rotate_left
              · (intro w hSw; (try dsimp only at hSw); go_simp); with_reducible rfl
              simp only [List.set_cons_zero, List.set_cons_succ]
              refine take1 (i := 5) (d := 173) (v := ?_) rfl (by kernel_rfl) (by kernel_rfl) (by kernel_rfl) rfl (fun _ _ _ h => h) (Or.inl ⟨by rfl, ?_⟩) (by assumption) ?_
              rotate_left
              · (intro w hSw; (try dsimp only at hSw); go_simp); with_reducible rfl
              simp only [List.set_cons_zero, List.set_cons_succ]
              refine take1 (i := 6) (d := 174) (v := ?_) rfl (by kernel_rfl) (by kernel_rfl) (by kernel_rfl) rfl (fun _ _ _ h => h) (Or.inl ⟨by rfl, ?_⟩) (by assumption) ?_
              rotate_left
              · (intro w hSw; (try dsimp only at hSw); go_simp); with_reducible rfl
              simp only [List.set_cons_zero, List.set_cons_succ]
              refine take1 (i := 7) (d := 175) (v := ?_) rfl (by kernel_rfl) (by kernel_rfl) (by kernel_rfl) rfl (fun _ _ _ h => h) (Or.inl ⟨by rfl, ?_⟩) (by assumption) ?_
              rotate_left
              · (intro w hSw; (try dsimp only at hSw); go_simp); with_reducible rfl
              simp only [List.set_cons_zero, List.set_cons_succ]
              refine take1 (i := 8) (d := 176) (v := ?_) rfl (by kernel_rfl) (by kernel_rfl) (by kernel_rfl) rfl (fun _ _ _ h => h) (Or.inl ⟨by rfl, ?_⟩) (by assumption) ?_
              rotate_left
              · (intro w hSw; (try dsimp only at hSw); go_simp); with_reducible rfl
              simp only [List.set_cons_zero, List.set_cons_succ]
              refine take1 (i := 9) (d := 177) (v := ?_) rfl (by kernel_rfl) (by kernel_rfl) (by kernel_rfl) rfl (fun _ _ _ h => h) (Or.inl ⟨by rfl, ?_⟩) (by assumption) ?_
              rotate_left
              · (intro w hSw; (try dsimp only at hSw); go_simp); with_reducible rfl
              simp only [List.set_cons_zero, List.set_cons_succ]
              refine take1 (i := 10) (d := 178) (v := ?_) rfl (by kernel_rfl) (by kernel_rfl) (by kernel_rfl) rfl (fun _ _ _ h => h) (Or.inl ⟨by rfl, ?_⟩) (by assumption) ?_
              rotate_left
              · (intro w hSw; (try dsimp only at hSw); go_simp); with_reducible rfl
              simp only [List.set_cons_zero, List.set_cons_succ]
              refine take1 (i := 12) (d := 180) (v := ?_) rfl (by kernel_rfl) (by kernel_rfl) (by kernel_rfl) rfl (fun _ _ _ h => h) (Or.inl ⟨by rfl, ?_⟩) (by assumption) ?_
              rotate_left
              · (intro w hSw; (try dsimp only at hSw); go_simp); with_reducible rfl
              simp only [List.set_cons_zero, List.set_cons_succ]
              refine take1 (i := 13) (d := 181) (v := ?_) rfl (by kernel_rfl) (by kernel_rfl) (by kernel_rfl) rfl (fun _ _ _ h => h) (Or.inl ⟨by rfl, ?_⟩) (by assumption) ?_
              rotate_left
              · (intro w hSw; (try dsimp only at hSw); go_simp); with_reducible rfl
              simp only [List.set_cons_zero, List.set_cons_succ]
              refine take1 (i := 14) (d := 182) (v := ?_) rfl (by kernel_rfl) (by kernel_rfl) (by kernel_rfl) rfl (fun _ _ _ h => h) (Or.inl ⟨by rfl, ?_⟩) (by assumption) ?_
              rotate_left
              · (intro w hSw; (try dsimp only at hSw); go_simp); with_reducible rfl
              simp only [List.set_cons_zero, List.set_cons_succ]
              refine wpAnyH_ready (rs := [11]) (by kernel_rfl) (by simp) (AllReadyH.cons rfl (fun Kreg hKreg => ?_) AllReadyH.nil)
              go_simp
              skip
              go_wp2_with fail
              refine hKreg.out _ _ (trivial) (fun hHeld => ?_)
              clear hKreg Kreg
              try simp only [Act.put, List.setIfInBounds_toArray, List.set_cons_zero, List.set_cons_succ]
              refine take1 (i := 15) (d := 183) (v := ?_) rfl (by kernel_rfl) (by kernel_rfl) (by kernel_rfl) rfl (fun _ _ _ h => h) (Or.inl ⟨by rfl, ?_⟩) (by assumption) ?_
              rotate_left
              · (intro w hSw; (try dsimp only at hSw); go_simp); with_reducible rfl
              simp only [List.set_cons_zero, List.set_cons_succ]
              refine take1 (i := 16) (d := 184) (v := ?_) rfl (by kernel_rfl) (by kernel_rfl) (by kernel_rfl) rfl (fun _ _ _ h => h) (Or.inl ⟨by rfl, ?_⟩) (by assumption) ?_
              rotate_left
              · (intro w hSw; (try dsimp only at hSw); go_simp); with_reducible rfl
              simp only [List.set_cons_zero, List.set_cons_succ]
              refine wpAnyH_ready (rs := [17]) (by kernel_rfl) (by simp) (AllReadyH.cons rfl (fun Kreg hKreg => ?_) AllReadyH.nil)
              go_simp
              skip
              go_wp2_with fail
              refine hKreg.out _ _ (trivial) (fun hHeld => ?_)
              clear hKreg Kreg
              try simp only [Act.put, List.setIfInBounds_toArray, List.set_cons_zero, List.set_cons_succ]
              refine wpAnyH_done (by kernel_rfl) ?_ _
              rw [HVX.out]
              have hoed : ((wc.setCell ⟨g, J, none⟩ (.int .u8 (v.toNat : Int))).drew.drew).ownsRow w.heap.size 3 1 _ k (endsV l k) := hoes
              generalize ((wc.setCell ⟨g, J, none⟩ (.int .u8 (v.toNat : Int))).drew.drew) = wd at *
              go_wp2_with fail
              refine (HS2.out _).mono ?_; rintro e w5 ⟨v5, rfl, own5, B5⟩
              obtain ⟨A10, c10, rfl, r10⟩ := own_slice1 own5
              have hB5 := hBs.trans (B5.mono hBs.size)
              have r11 := (r9.below hB5).more hB5.size
              have hsame2 := same_eq (l.take I) I HL9.out (by omega) A10 A9 c10 c9 w5 r10 r11
              have HSA2 := Lib.hid hsame2
              have hoe5 := own_below hoed B5
              clear hsame2 own5 r10 r11 r9 B5 hBs hoed hcd
              go_wp2_with fail
              refine HSA2.out.mono ?_; rintro e w6 ⟨rfl, B6⟩
              have hB6 := hB5.trans (B6.mono hB5.size)
              have hoe6 := own_below hoe5 B6
              obtain ⟨A11, c11, he11, r11⟩ := own_slice1 hoe6
              injection he11 with he11 _ _
              subst he11
              clear hoe5 hoe6 B6 hB5 HSA2
              by_cases hI0 : I = 0
              · have hIz : ((I : Int) == 0) = true := by rw [hI0]; rfl
                have hIg : ¬ (0 : Int) < (I : Int) := by omega
                have hfz : ((f0 : Int) == 0) = true := by
                  have h0 : f0 = 0 := by rw [← HF0.out, hI0, en_eq]; simp [allB]
                  rw [h0]; rfl
                clear hI0
                go_wp2_with fail
                refine (wakes3_any _).mono ?_; rintro e w9 ⟨rfl, B9⟩
                go_wp2_with fail
                go_ret
                exact ⟨rfl, hB6.trans (B9.mono hB6.size)⟩
              · have hIz : ((I : Int) == 0) = false := beq_eq_false_iff_ne.2 (by omega)
                have hIg : (0 : Int) < (I : Int) := by omega
                obtain ⟨I1, hI1e⟩ : ∃ I1 : Nat, I = I1 + 1 := ⟨I - 1, by omega⟩
                obtain ⟨ad5, he5, _, dE5⟩ := end_at r11 (k := I1) (by omega)
                cases he5
                rw [← hI1e, HF0.out] at dE5
                have hIm : (I : Int) - 1 = (I1 : Int) := by omega
                have hIk1 : (I1 : Int) < (k : Int) := by omega
                clear hI0 hI1e
                go_wp2_with fail
                refine (wakes3_any _).mono ?_; rintro e w9 ⟨rfl, B9⟩
                go_wp2_with fail
                go_ret
                exact ⟨rfl, hB6.trans (B9.mono hB6.size)⟩
end Go.Proofs.Ytgbnaifjdfoahaa.Frame
