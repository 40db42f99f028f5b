/- The document's reader of bytes, walked: Num; it is the program's. Conditions: the arguments are of their types. -/
import Derived.Deep.LoopGhost
import Derived.Deep.RegionHeld3
import Derived.IntWalk
import Derived.Deep.DeepCutAuto
import Derived.Test.YteiaiilfekojfaaGreatQTakesAWireDoc
namespace Go.Proofs.YteiaiilfekojfaaGreat.Wire
open Go.RowKit

/-- How many bytes follow a first byte. -/
def kOf (b : UInt8) : Nat := if 248 ≤ b.toNat then b.toNat - 247 else 0
def vOf (b : UInt8) (l : List UInt8) : Nat := if 248 ≤ b.toNat then valB (l.take (kOf b)) else b.toNat
def Dr.num (r : Dr) : Nat × Dr :=
  if r.e ≠ 0 then (0, r) else match r.s with
  | [] => (0, ⟨[], 3⟩)
  | b :: l => if l.length < kOf b then (0, ⟨[], 3⟩) else if numB (vOf b l) = (b :: l).take (1 + kOf b) then (vOf b l, ⟨(b :: l).drop (1 + kOf b), 0⟩) else (0, ⟨[], 4⟩)
theorem kOf_le (b : UInt8) : kOf b ≤ 8 := by
  unfold kOf
  have := b.toNat_lt
  split <;> omega
theorem vOf_lt (b : UInt8) (l : List UInt8) : vOf b l < 18446744073709551616 := by
  unfold vOf
  have hb := b.toNat_lt
  split
  · have h1 := valB_take_lt l (kOf b)
    have h2 : 256 ^ kOf b ≤ 256 ^ 8 := Nat.pow_le_pow_right (by omega) (kOf_le b)
    have h3 : (256 : Nat) ^ 8 = 18446744073709551616 := by decide
    omega
  · omega
theorem of_toNat (b : UInt8) : UInt8.ofNat b.toNat = b := by simp
theorem take1_cons (k : Nat) (b : UInt8) (l : List UInt8) : (b :: l).take (1 + k) = b :: l.take k := by rw [Nat.add_comm, List.take_succ_cons]
theorem drop1_cons (k : Nat) (b : UInt8) (l : List UInt8) : (b :: l).drop (1 + k) = l.drop k := by rw [Nat.add_comm, List.drop_succ_cons]
theorem doc_num (r : Rd) : (r.doc).num = (r.num.1, r.num.2.doc) := by
  obtain ⟨e, l⟩ := r
  unfold Rd.doc
  by_cases h : e = 0
  · subst h
    match l with
    | [] => rfl
    | b :: l =>
      have hb := b.toNat_lt
      by_cases h8 : b.toNat < 248
      · rw [num_small b l h8]
        have hk : kOf b = 0 := by unfold kOf; rw [if_neg (by omega)]
        have hv : vOf b l = b.toNat := by unfold vOf; rw [if_neg (by omega)]
        unfold Dr.num
        simp only [if_true, ne_eq, not_true_eq_false, if_false, hk, hv]
        have hn : numB b.toNat = [b] := by unfold numB; rw [if_pos h8, of_toNat]
        rw [if_neg (by omega), hn]
        simp
      · have hk : kOf b = b.toNat - 247 := by unfold kOf; rw [if_pos (by omega)]
        have hv : vOf b l = valB (l.take (b.toNat - 247)) := by unfold vOf; rw [if_pos (by omega), hk]
        have hvl := vOf_lt b l
        rw [hv] at hvl
        unfold Dr.num
        simp only [if_true, ne_eq, not_true_eq_false, if_false, hk, hv]
        by_cases hs : b.toNat - 247 ≤ l.length
        · rw [num_big b l h8 hs, if_neg (by omega)]
          have hlen : (l.take (b.toNat - 247)).length = b.toNat - 247 := by rw [List.length_take]; omega
          have ht : (b :: l).take (1 + (b.toNat - 247)) = b :: l.take (b.toNat - 247) := take1_cons _ _ _
          have hd : (b :: l).drop (1 + (b.toNat - 247)) = l.drop (b.toNat - 247) := drop1_cons _ _ _
          rw [ht, hd]
          generalize hn : valB (l.take (b.toNat - 247)) = n at *
          by_cases hc : n < 248 ∨ widthN n ≠ b.toNat - 247
          · have hne : ¬ numB n = b :: l.take (b.toNat - 247) := by
              intro he
              unfold numB at he
              by_cases h2 : n < 248
              · rw [if_pos h2] at he
                have := congrArg List.length he
                simp only [List.length_cons, List.length_nil, hlen] at this
                omega
              · rw [if_neg h2] at he
                have h3 := (List.cons.inj he).1
                have h4 := congrArg UInt8.toNat h3
                have hw := width_le n hvl
                have : (UInt8.ofNat (247 + widthN n)).toNat = 247 + widthN n := by simp; omega
                rw [this] at h4
                omega
            rw [if_neg hne, if_pos hc]
            simp
          · have hyes : numB n = b :: l.take (b.toNat - 247) := by
              unfold numB
              rw [if_neg (by omega)]
              have hw : widthN n = b.toNat - 247 := by omega
              have hbe := be_val (l.take (b.toNat - 247))
              rw [hlen, hn] at hbe
              rw [hw, hbe]
              have e : 247 + (b.toNat - 247) = b.toNat := by omega
              rw [e, of_toNat]
            rw [if_pos hyes, if_neg hc]
            simp
        · rw [num_short b l h8 (by omega), if_pos (by omega)]
          simp
  · rw [num_failed _ h]
    simp only [if_neg h]
    unfold Dr.num
    rw [if_pos h]

/-! ### The walk -/
def DocAt (b : UInt8) (l : List UInt8) (L : List (Nat × TypeId × Array Value)) (w : World) (gk : Nat) (s5 s6 : Value) (wr : World) : Prop :=
  ∃ j v : Nat, j + gk = kOf b ∧ s6 = .int .i64 ((j : Int) + 1) ∧ s5 = .int .u64 (v : Int) ∧ v < 18446744073709551616 ∧ Hid (if 248 ≤ b.toNat then v = valB (l.take j) else v = b.toNat) ∧ Kg L w wr
set_option linter.unusedSimpArgs false in
set_option maxRecDepth 100000 in
set_option maxHeartbeats 8000000 in
theorem docNum_any (r : Dr) (hl : r.s.length < 4611686018427387904) (w : World) : Calls Tryz.prog 98 #[drV r] w fun e w' => DocRet w (.tuple #[.int .u64 ((r.num).1 : Int), drV r.num.2]) e w' := by
  obtain ⟨s, e⟩ := r
  have k := ((Kg.refl w).new 121 #[.string ⟨s.toArray⟩, .int .i64 (e : Int)]).new 121 #[.string ⟨#[]⟩, .int .i64 0]
  have e1 : (w.alloc (.cells #[.string ⟨s.toArray⟩, .int .i64 (e : Int)] 121)).heap.size = w.heap.size + 1 := by simp
  rw [e1] at k
  have kn : ∀ a b : Value, Kg [(w.heap.size + 1, 121, #[a, b]), (w.heap.size, 121, #[.string ⟨s.toArray⟩, .int .i64 (e : Int)])] w ((w.alloc (.cells #[.string ⟨s.toArray⟩, .int .i64 (e : Int)] 121)).alloc (.cells #[a, b] 121)) := by
    intro a b
    have := ((Kg.refl w).new 121 #[.string ⟨s.toArray⟩, .int .i64 (e : Int)]).new 121 #[a, b]
    rw [e1] at this
    exact this
  have KN := Lib.hid kn
  clear e1 kn
  by_cases he : e = 0
  · subst he
    by_cases hs : s = []
    · subst hs
      have hp : (Dr.num ⟨[], 0⟩) = (0, ⟨[], 3⟩) := rfl
      rw [hp]
      clear hp
      unfold drV drC at *
      go_enter Tryz.func98, Tryz.ntmps98
      go_wp2_with fail
      refine (none_any 3 _).mono ?_; rintro e w1 ⟨rfl, B1⟩
      have k := k.below B1
      obtain ⟨c0, c1⟩ := k.i1.c2
      obtain ⟨f0, f1⟩ := k.i1.f2
      clear B1
      go_wp2_with fail
      have kk := k.set2 (v0 := .string ⟨#[]⟩) (v1 := .int .i64 3) (by simp) (Nat.le_succ _)
      obtain ⟨y0, y1⟩ := kk.i1.c2
      refine bodyPost_ret (v := .tuple #[.int .u64 (0), .agg #[.string ⟨#[]⟩, .int .i64 3]]) (by simp [results, Tryz.results98, go_sem, y0, y1]) rfl ⟨rfl, kk.bw⟩
    · obtain ⟨b, l, rfl⟩ : ∃ b l, s = b :: l := by
        match s, hs with
        | b :: l, _ => exact ⟨b, l, rfl⟩
      obtain ⟨p, hp⟩ : ∃ p, Dr.num ⟨b :: l, 0⟩ = p := ⟨_, rfl⟩
      rw [hp]
      have HP := Lib.hid hp
      have hidx := index_str (b :: l) 0 b rfl
      have hi2 : ∀ h, (ByteArray.mk (b :: l).toArray)[0]'h = b := fun h => by
        have := hidx
        rw [getElem?_pos _ 0 h] at this
        exact Option.some.inj this
      have hsz := size_str (b :: l)
      have hpos : 0 < (b :: l).length := by simp
      have hll : (b :: l).length = l.length + 1 := rfl
      have HLL := Lib.hid hll
      have hix : ∀ j x, l[j]? = some x → (ByteArray.mk (b :: l).toArray)[j + 1]? = some x := fun j x hx => index_str (b :: l) (j + 1) x (by simpa using hx)
      have HIX := Lib.hid hix
      have hk8 := kOf_le b
      have hb : b.toNat < 256 := b.toNat_lt
      generalize hS : b :: l = s at *
      have HS := Lib.hid hS
      clear hp hs hll hix hS
      unfold drV drC at *
      go_enter Tryz.func98, Tryz.ntmps98
      have hll2 : s.length = l.length + 1 := HLL.out
      have hne : ((s.length : Int) == 0) = false := beq_eq_false_iff_ne.2 (by omega)
      clear hll2
      go_upto_if 19 with fail
      go_cut [4] (fun s4 wx => s4 = .int .i64 (kOf b : Int) ∧ Kg [(w.heap.size + 1, 121, #[.string ⟨#[]⟩, .int .i64 0]), (w.heap.size, 121, #[.string ⟨s.toArray⟩, .int .i64 ((0 : Nat) : Int)])] w wx)
      case first =>
        by_cases h8 : 248 ≤ b.toNat
        · have hk : (kOf b : Int) = (b.toNat : Int) - 247 := by unfold kOf; rw [if_pos h8]; omega
          have HK := Lib.hid hk
          have h8' : (248 : Int) ≤ (b.toNat : Int) := by omega
          clear hk h8
          go_wp2_with fail
          go_meet
          exact ⟨by rw [HK.out], k⟩
        · have hk : (kOf b : Int) = 0 := by unfold kOf; rw [if_neg h8]; rfl
          have HK := Lib.hid hk
          have h8' : ¬ (248 : Int) ≤ (b.toNat : Int) := by omega
          clear hk h8
          go_wp2_with fail
          go_meet
          exact ⟨by rw [HK.out], k⟩
      case rest =>
        clear k
        obtain ⟨rfl, k⟩ := hcut
        obtain ⟨c0, c1⟩ := k.i2.c2
        by_cases hsh : l.length < kOf b
        · have hp2 : p = (0, ⟨[], 3⟩) := by
            rw [← HP.out, ← HS.out]
            unfold Dr.num
            simp only [ne_eq, not_true_eq_false, if_false]
            rw [if_pos hsh]
          have HP2 := Lib.hid hp2
          have hlt : (s.length : Int) < 1 + (kOf b : Int) := by have := HLL.out; omega
          have hw : IntKind.i64.wrap (1 + (kOf b : Int)) = 1 + (kOf b : Int) := IntWalk.i64_in _ (by omega)
          clear hp2 hsh
          go_wp2_with fail
          have hp2 := HP2.out
          refine (none_any 3 _).mono ?_; rintro e w1 ⟨rfl, B1⟩
          have k := k.below B1
          obtain ⟨c0, c1⟩ := k.i1.c2
          obtain ⟨f0, f1⟩ := k.i1.f2
          clear B1
          go_wp2_with fail
          have kk := k.set2 (v0 := .string ⟨#[]⟩) (v1 := .int .i64 3) (by simp) (Nat.le_succ _)
          obtain ⟨y0, y1⟩ := kk.i1.c2
          rw [hp2]
          refine bodyPost_ret (v := .tuple #[.int .u64 (0), .agg #[.string ⟨#[]⟩, .int .i64 3]]) (by simp [results, Tryz.results98, go_sem, y0, y1]) rfl ⟨rfl, kk.bw⟩
        · have hge : ¬ (s.length : Int) < 1 + (kOf b : Int) := by have := HLL.out; omega
          have hw : IntKind.i64.wrap (1 + (kOf b : Int)) = 1 + (kOf b : Int) := IntWalk.i64_in _ (by omega)
          have HSH := Lib.hid hsh
          clear hsh
          go_upto_if 37 with fail
          clear hw hge
          go_cut [5] (fun s5 wx => ∃ v0 : Nat, s5 = .int .u64 (v0 : Int) ∧ v0 < 18446744073709551616 ∧ Hid (v0 = if 248 ≤ b.toNat then 0 else b.toNat) ∧ Kg [(w.heap.size + 1, 121, #[.string ⟨#[]⟩, .int .i64 0]), (w.heap.size, 121, #[.string ⟨s.toArray⟩, .int .i64 ((0 : Nat) : Int)])] w wx)
          case first =>
            by_cases h8 : 248 ≤ b.toNat
            · have hk0 : (0 : Int) < (kOf b : Int) := by unfold kOf; rw [if_pos h8]; omega
              have H8 := Lib.hid h8
              clear h8
              go_wp2_with fail
              go_meet
              exact ⟨0, rfl, by omega, (by show _ = _; rw [if_pos H8.out]), k⟩
            · have hk0 : ¬ (0 : Int) < (kOf b : Int) := by unfold kOf; rw [if_neg h8]; omega
              have H8 := Lib.hid h8
              clear h8
              go_wp2_with fail
              go_meet
              exact ⟨b.toNat, rfl, by omega, (by show _ = _; rw [if_neg H8.out]), k⟩
          case rest =>
            clear k c0 c1
            obtain ⟨v0, rfl, hv0, hvd, k⟩ := hcut
            go_wp2_with fail
            go_loopg [5, 6] (kOf b) (fun gk s5 s6 wr => DocAt b l [(w.heap.size + 1, 121, #[.string ⟨#[]⟩, .int .i64 0]), (w.heap.size, 121, #[.string ⟨s.toArray⟩, .int .i64 ((0 : Nat) : Int)])] w gk s5 s6 wr)
            case atStart =>
              refine ⟨0, v0, by omega, rfl, rfl, hv0, ?_, k⟩
              show if 248 ≤ b.toNat then _ else _
              rw [hvd.out]
              by_cases h8 : 248 ≤ b.toNat
              · rw [if_pos h8, if_pos h8]; simp [valB]
              · rw [if_neg h8, if_neg h8]
            case round =>
              clear k
              obtain ⟨j, v, hj, rfl, rfl, hv64, hv, k⟩ := hrel
              obtain ⟨c0, c1⟩ := k.i2.c2
              by_cases hjk : j < kOf b
              · have h8 : 248 ≤ b.toNat := by
                  rcases Nat.lt_or_ge b.toNat 248 with h0 | h0
                  · exfalso; unfold kOf at hjk; rw [if_neg (by omega)] at hjk; omega
                  · exact h0
                have hv2 : Hid (v = valB (l.take j)) := by have := hv.out; rw [if_pos h8] at this; exact this
                have hjl : j < l.length := by have := HSH.out; omega
                obtain ⟨g1, g2, g3⟩ := num_step hv2 hjk hk8 hjl
                have hxi := HIX.out j l[j] (List.getElem?_eq_getElem hjl)
                have hi3 : ∀ h, (ByteArray.mk s.toArray)[j + 1]'h = l[j] := fun h => by
                  have := hxi
                  rw [getElem?_pos _ (j + 1) h] at this
                  exact Option.some.inj this
                have hlt := l[j].toNat_lt
                have hjs : (j : Int) + 1 < (s.length : Int) := by have := HLL.out; omega
                have hjk2 : (j : Int) + 1 ≤ (kOf b : Int) := by omega
                have htn : ((j : Int) + 1).toNat = j + 1 := by omega
                have H8 := Lib.hid h8
                clear h8 hxi hv hv2
                go_wp2_with fail
                go_roundg (kOf b - (j + 1))
                case measure => omega
                case rel => exact ⟨j + 1, v * 256 + l[j].toNat, by omega, by go_num, by go_num, g3, (by show if 248 ≤ b.toNat then _ else _; rw [if_pos H8.out]; exact g2.out), k⟩
              · obtain rfl : j = kOf b := by omega
                have hvv : v = vOf b l := by
                  have := hv.out
                  unfold vOf
                  by_cases h8 : 248 ≤ b.toNat
                  · rw [if_pos h8] at this ⊢; exact this
                  · rw [if_neg h8] at this ⊢; exact this
                have HV := Lib.hid hvv
                have E1 := take_str s (1 + kOf b)
                have E2 := drop_str s (1 + kOf b)
                rw [hsz] at E2
                have hw : IntKind.i64.wrap (1 + (kOf b : Int)) = 1 + (kOf b : Int) := IntWalk.i64_in _ (by omega)
                have htn : (1 + (kOf b : Int)).toNat = 1 + kOf b := by omega
                have hle : 1 + (kOf b : Int) ≤ (s.length : Int) := by have := HLL.out; have := HSH.out; omega
                have h0le : (0 : Int) ≤ 1 + (kOf b : Int) := by omega
                clear hv hvv hjk
                by_cases hq : numB v = s.take (1 + kOf b)
                · have HQ := Lib.hid hq
                  have hr := refNum_any v hv64
                  unfold RetStr at hr
                  rw [hq] at hr
                  have HR := Lib.hid hr
                  clear hq hr
                  go_wp2_with fail
                  have k := k.drew
                  go_region_held3 (fun W : World => W.cell? ⟨w.heap.size, 0, none⟩ = some (.string ⟨s.toArray⟩)) (exact k.i2.cell 0) (first | (go_at_call 52; refine (HR.out _).mono ?_; rintro e w1 ⟨rfl, B1⟩; have k := k.below B1; clear B1))
                  all_goals
                    go_wp2_with fail
                    obtain ⟨d0, d1⟩ := k.i1.c2
                    obtain ⟨f0, f1⟩ := k.i1.f2
                    have hp2 : p = (v, ⟨s.drop (1 + kOf b), 0⟩) := by
                      have hq := HQ.out
                      have hvv := HV.out
                      rw [← HP.out, ← HS.out]
                      rw [← HS.out] at hq
                      rw [hvv] at hq ⊢
                      unfold Dr.num
                      simp only [ne_eq, not_true_eq_false, if_false]
                      rw [if_neg HSH.out, if_pos hq]
                    have HP2 := Lib.hid hp2
                    clear hp2
                    go_region_held3 (fun W : World => W.cell? ⟨w.heap.size, 0, none⟩ = some (.string ⟨s.toArray⟩)) (first | exact k.drew.i2.cell 0 | exact (k.drew.set2 (by simp) (Nat.le_succ _)).i2.cell 0) (fail)
                    all_goals
                      go_wp2_with fail
                      have kk := (k.set2 (v0 := .string ⟨(s.drop (1 + kOf b)).toArray⟩) (v1 := .int .i64 0) (by simp) (Nat.le_succ _)).drew
                      obtain ⟨y0, y1⟩ := (k.set2 (v0 := .string ⟨(s.drop (1 + kOf b)).toArray⟩) (v1 := .int .i64 0) (by simp) (Nat.le_succ _)).i1.c2
                      have z0 := (k.set_ (i := 0) (by simp) (Nat.le_succ _) (.string ⟨(s.drop (1 + kOf b)).toArray⟩)).i1.cell 0
                      simp at z0
                      rw [HP2.out]
                      refine bodyPost_ret (v := .tuple #[.int .u64 ((v : Int)), .agg #[.string ⟨(s.drop (1 + kOf b)).toArray⟩, .int .i64 0]]) (by simp [results, Tryz.results98, go_sem, y0, y1, z0]) rfl ⟨rfl, kk.bw⟩
                · have hp2 : p = (0, ⟨[], 4⟩) := by
                    have hvv := HV.out
                    rw [← HP.out, ← HS.out]
                    rw [← HS.out] at hq
                    rw [hvv] at hq
                    unfold Dr.num
                    simp only [ne_eq, not_true_eq_false, if_false]
                    rw [if_neg HSH.out, if_neg hq]
                  have HP2 := Lib.hid hp2
                  have hr := refNum_any v hv64
                  unfold RetStr at hr
                  have HR := Lib.hid hr
                  have EL : (numB v == s.take (1 + kOf b)) = false := beq_eq_false_iff_ne.2 hq
                  clear hq
                  clear hr hp2
                  go_wp2_with fail
                  have k := k.drew
                  go_region_held3 (fun W : World => W.cell? ⟨w.heap.size, 0, none⟩ = some (.string ⟨s.toArray⟩)) (exact k.i2.cell 0) (first | (go_at_call 52; refine (HR.out _).mono ?_; rintro e w1 ⟨rfl, B1⟩; have k := k.below B1; clear B1))
                  all_goals
                    go_wp2_with fail
                    refine (none_any 4 _).mono ?_; rintro e w2 ⟨rfl, B2⟩
                    have k := k.below B2
                    obtain ⟨d0, d1⟩ := k.i1.c2
                    obtain ⟨f0, f1⟩ := k.i1.f2
                    clear B2
                    go_wp2_with fail
                    have kk := k.set2 (v0 := .string ⟨#[]⟩) (v1 := .int .i64 4) (by simp) (Nat.le_succ _)
                    obtain ⟨y0, y1⟩ := kk.i1.c2
                    rw [HP2.out]
                    refine bodyPost_ret (v := .tuple #[.int .u64 (0), .agg #[.string ⟨#[]⟩, .int .i64 4]]) (by simp [results, Tryz.results98, go_sem, y0, y1]) rfl ⟨rfl, kk.bw⟩
  · have hp : (Dr.num ⟨s, e⟩) = (0, ⟨s, e⟩) := by unfold Dr.num; rw [if_pos he]
    rw [hp]
    have hne : ((e : Int) != 0) = true := by rw [bne_iff_ne]; omega
    clear hp he
    unfold drV drC at *
    go_enter Tryz.func98, Tryz.ntmps98
    go_wp2_with fail
    go_region_held3 (fun W : World => W.cell? ⟨w.heap.size, 0, none⟩ = some (.string ⟨s.toArray⟩) ∧ W.cell? ⟨w.heap.size, 1, none⟩ = some (.int .i64 (e : Int))) (first | exact ⟨k.drew.i2.cell 0, k.drew.i2.cell 1⟩ | exact ⟨(KN.out _ _).drew.i2.cell 0, (KN.out _ _).drew.i2.cell 1⟩) (fail)
    all_goals
      go_wp2_with fail
      have kk := (KN.out (.string ⟨s.toArray⟩) (.int .i64 (e : Int))).drew
      obtain ⟨y0, y1⟩ := kk.i1.c2
      refine bodyPost_ret (v := .tuple #[.int .u64 (0), .agg #[.string ⟨s.toArray⟩, .int .i64 (e : Int)]]) (by simp [results, Tryz.results98, go_sem, y0, y1]) rfl ⟨rfl, kk.bw⟩
end Go.Proofs.YteiaiilfekojfaaGreat.Wire
