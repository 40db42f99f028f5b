/- The walk of SessionRises: what was kept last is told again. Conditions: the list can be read; the arguments are of their types. -/
import Derived.Test.YtghicjkponnceaaSessRise
import Derived.Deep.RegionHeld3
import Derived.Deep.DeepCutAuto
import Derived.IntWalk
namespace Go.Proofs.Ytghicjkponnceaa.Sess
open Go.RowKit

def zeroT : Nat → Ent := fun _ => ⟨0, 0, noText⟩
theorem keepT_is (t : Nat → Ent) (ec client : Nat) (x : Ent) (hc : client < 4) : keepT t ec x client = if ec = client ∧ (t client).seq < x.seq then x else t client := by
  unfold keepT
  by_cases h : ec = client
  · subst h
    by_cases h2 : (t ec).seq < x.seq
    · simp [hc, h2]
    · simp [h2]
  · by_cases h2 : ec < 4 ∧ (t ec).seq < x.seq
    · rw [if_pos h2]
      simp [h, Ne.symm h]
    · rw [if_neg h2]
      simp [h]
def repC (x : Ent) : Array Value := #[.int .u8 (x.code : Int), .string x.text]
/-- What holds at the head of a round. -/
def RiseAt (l : List Kp) (client g9 g11 : Nat) (w : World) (gk : Nat) (s10 s12 : Value) (wr : World) : Prop :=
  ∃ (k : Nat) (t : Nat → Ent), k + gk = l.length ∧ s12 = .int .i64 (k : Int) ∧ s10 = .int .u32 ((t client).seq : Int) ∧ Kg [(g9, 31, tabC t), (g11, 25, repC (t client))] w wr ∧ (t client).seq ≠ 0 ∧ (t client).seq < 4294967296

set_option maxRecDepth 100000 in
set_option maxHeartbeats 20000000 in
theorem rises_any (l : List Kp) (hl : l.length ≤ 9223372036854775807) (hfit : ∀ b ∈ l, Kp.Fits b) (client seq code : Nat) (text : ByteArray) (hs : seq < 4294967296) (A : Option Addr) (c : Nat) (w : World) (h : Kepts w A l) :
    Calls Try.prog 3 #[.slice A l.length c, .int .u8 (client : Int), .int .u32 (seq : Int), .agg #[.int .u8 (code : Int), .string text]] w fun e w' => e = .returned (.bool true) ∧ Below w.heap.size w w' := by
  have k := (Kg.refl w).new 25 #[.int .u8 (code : Int), .string text]
  have G := great_any l hl A c
  have HG := Lib.hid G
  have HK := Lib.hid h
  have HF := Lib.hid hfit
  clear G h hfit
  go_enter Try.func3, Try.ntmps3
  go_wp2_with fail
  refine (HG.out _ (HK.out.below' k.bw)).mono ?_; rintro e w1 ⟨⟨b, rfl, hb⟩, B1⟩
  have k := k.below B1
  clear B1
  cases b
  case true =>
    clear hb
    go_wp2_with fail
    refine (wakes12_any _).mono ?_; rintro e w2 ⟨rfl, B2⟩
    have k := k.below B2
    go_wp2
    go_ret
    exact ⟨rfl, k.bw⟩
  have hl2 := hb rfl
  clear hb
  by_cases h4 : 4 ≤ client
  · go_wp2_with fail
    refine (wakes12_any _).mono ?_; rintro e w2 ⟨rfl, B2⟩
    have k := k.below B2
    go_wp2
    go_ret
    exact ⟨rfl, k.bw⟩
  by_cases h0 : seq = 0
  · subst h0
    go_wp2_with fail
    refine (wakes12_any _).mono ?_; rintro e w2 ⟨rfl, B2⟩
    have k := k.below B2
    go_wp2
    go_ret
    exact ⟨rfl, k.bw⟩
  have E0 : ((seq : Int) == 0) = false := beq_eq_false_iff_ne.2 (by omega)
  obtain ⟨q0, q1⟩ := k.i1.c2
  by_cases h2 : 200 < text.size
  · go_wp2_with fail
    refine (wakes12_any _).mono ?_; rintro e w2 ⟨rfl, B2⟩
    have k := k.below B2
    go_wp2
    go_ret
    exact ⟨rfl, k.bw⟩
  have hz : keepT zeroT client ⟨seq, code, text⟩ client = ⟨seq, code, text⟩ := by
    rw [keepT_is _ _ _ _ (by omega), if_pos ⟨rfl, by simp only [zeroT]; omega⟩]
  have C0 : ∀ w, Calls Try.prog 17 #[.agg z12, .int .u8 (client : Int), .int .u32 (seq : Int), .agg #[.int .u8 (code : Int), .string text]] w fun e w' => e = .returned (.agg (tabC (keepT zeroT client ⟨seq, code, text⟩))) ∧ Below w.heap.size w w' := fun w => keep_any zeroT client ⟨seq, code, text⟩ w
  generalize keepT zeroT client ⟨seq, code, text⟩ = t at hz C0
  unfold z12 tabC at C0
  have HC := Lib.hid C0
  have HZ := Lib.hid hz
  clear C0 hz
  go_wp2_with fail
  refine (HC.out _).mono ?_; rintro e w2 ⟨rfl, B2⟩
  have k := k.below B2
  have kw2 := k.bw
  clear B2 q0 q1
  obtain ⟨q0, q1⟩ := k.i1.c2
  have k := k.new 31 #[.int .u32 ((t 0).seq : Int), .int .u8 ((t 0).code : Int), .string (t 0).text, .int .u32 ((t 1).seq : Int), .int .u8 ((t 1).code : Int), .string (t 1).text, .int .u32 ((t 2).seq : Int), .int .u8 ((t 2).code : Int), .string (t 2).text, .int .u32 ((t 3).seq : Int), .int .u8 ((t 3).code : Int), .string (t 3).text]
  have hg9 : w.heap.size ≤ w2.heap.size := kw2.size
  go_upto_region 4 with fail
  generalize w2.alloc (.cells #[.int .u32 ((t 0).seq : Int), .int .u8 ((t 0).code : Int), .string (t 0).text, .int .u32 ((t 1).seq : Int), .int .u8 ((t 1).code : Int), .string (t 1).text, .int .u32 ((t 2).seq : Int), .int .u8 ((t 2).code : Int), .string (t 2).text, .int .u32 ((t 3).seq : Int), .int .u8 ((t 3).code : Int), .string (t 3).text] 31) = w3 at *
  generalize w2.heap.size = g9 at *
  go_cut [10, 11] (fun s10 s11 wx => ∃ g11, s10 = .int .u32 (seq : Int) ∧ s11 = .pointer (some ⟨g11, 0, none⟩) ∧ g9 < g11 ∧ Kg [(g9, 31, #[.int .u32 ((t 0).seq : Int), .int .u8 ((t 0).code : Int), .string (t 0).text, .int .u32 ((t 1).seq : Int), .int .u8 ((t 1).code : Int), .string (t 1).text, .int .u32 ((t 2).seq : Int), .int .u8 ((t 2).code : Int), .string (t 2).text, .int .u32 ((t 3).seq : Int), .int .u8 ((t 3).code : Int), .string (t 3).text]), (g11, 25, #[.int .u8 (code : Int), .string text])] w wx)
  case first =>
    clear q0 q1
    obtain ⟨q0, q1⟩ := k.i2.c2
    have n3 := World.new_ne w3 _ q0
    have s3 := k.i1.lt
    dsimp only at s3
    go_region_held3 (fun W : World => W.cell? ⟨w.heap.size, 0, none⟩ = some (.int .u8 (code : Int)) ∧ W.cell? ⟨w.heap.size, 1, none⟩ = some (.string text)) (go_keep) (fail)
    all_goals (go_wp2_with fail; go_meet; exact ⟨w3.heap.size, rfl, rfl, s3, ((Kg.new (Kg.tail (Kg.tail k)) _ _).cons (k.i1.alloc _)).drew⟩)
  case rest =>
    clear k q0 q1
    obtain ⟨g11, rfl, rfl, hgg, k⟩ := hcut
    have hne : g11 ≠ g9 := by omega
    have hg11 : w.heap.size ≤ g11 := by omega
    go_wp2_with fail
    go_loopg [10, 12] l.length (fun gk s10 s12 wr => RiseAt l client g9 g11 w gk s10 s12 wr)
    case atStart =>
      have hz := HZ.out
      exact ⟨0, t, by omega, rfl, by rw [hz], by (unfold tabC repC; rw [hz]; exact k), by rw [hz]; exact h0, by rw [hz]; exact hs⟩
    case round =>
      clear k HZ HC
      obtain ⟨k, t, hk, rfl, rfl, kb, ht0, ht1⟩ := hrel
      by_cases hkl : k < l.length
      · have hx : l[k]? = some l[k] := List.getElem?_eq_getElem hkl
        have hfx := HF.out _ (List.getElem_mem hkl)
        generalize l[k] = x at hx hfx
        obtain ⟨ad, rfl, hlt, hat⟩ := HK.out k x hx
        obtain ⟨ec, es, ek, et⟩ := x
        have hlt' : (ad.add (k * 4)).block < w.heap.size := by rw [block_of_add]; exact hlt
        have keepE : ∀ W, Below w.heap.size w W → (W.cell? (ad.add (k * 4)) = some (.int .u8 (ec : Int)) ∧ W.cell? { block := (ad.add (k * 4)).block, off := (ad.add (k * 4)).off + 1 } = some (.int .u32 (es : Int)) ∧ W.cell? { block := (ad.add (k * 4)).block, off := (ad.add (k * 4)).off + 2 } = some (.int .u8 (ek : Int)) ∧ W.cell? { block := (ad.add (k * 4)).block, off := (ad.add (k * 4)).off + 3 } = some (.string et)) :=
          fun W hW => blk_cell3 (hat.below hlt' hW)
        have hes : es < 4294967296 := hfx.2.1
        have hK := keepT_is t ec client ⟨es, ek, et⟩ (by omega)
        have C0 : ∀ w, Calls Try.prog 17 #[.agg (tabC t), .int .u8 (ec : Int), .int .u32 (es : Int), .agg #[.int .u8 (ek : Int), .string et]] w fun e w' => e = .returned (.agg (tabC (keepT t ec ⟨es, ek, et⟩))) ∧ Below w.heap.size w w' := fun w => keep_any t ec ⟨es, ek, et⟩ w
        generalize keepT t ec ⟨es, ek, et⟩ = t' at hK C0
        unfold tabC at C0 kb
        unfold repC at kb
        have HC := Lib.hid C0
        have HKT := Lib.hid hK
        have HX := Lib.hid hx
        have KE := Lib.hid keepE
        clear C0 hK hx hat hfx
        obtain ⟨a0, a1, a2, a3, a4, a5, a6, a7, a8, a9, a10, a11⟩ := kb.i1.c12
        go_upto_region 8 with fail
        go_cut [] (fun wx => Kg [(g9, 31, #[.int .u32 ((t' 0).seq : Int), .int .u8 ((t' 0).code : Int), .string (t' 0).text, .int .u32 ((t' 1).seq : Int), .int .u8 ((t' 1).code : Int), .string (t' 1).text, .int .u32 ((t' 2).seq : Int), .int .u8 ((t' 2).code : Int), .string (t' 2).text, .int .u32 ((t' 3).seq : Int), .int .u8 ((t' 3).code : Int), .string (t' 3).text]), (g11, 25, #[.int .u8 ((t client).code : Int), .string (t client).text])] w wx)
        case first =>
          refine wp_region_held_drew (S := (fun W : World => W.cell? (ad.add (k * 4)) = some (.int .u8 (ec : Int)) ∧ W.cell? { block := (ad.add (k * 4)).block, off := (ad.add (k * 4)).off + 1 } = some (.int .u32 (es : Int)) ∧ W.cell? { block := (ad.add (k * 4)).block, off := (ad.add (k * 4)).off + 2 } = some (.int .u8 (ek : Int)) ∧ W.cell? { block := (ad.add (k * 4)).block, off := (ad.add (k * 4)).off + 3 } = some (.string et))) (by kernel_rfl) (keepE _ kb.drew.bw) (fun hHeld => ?_)
          refine take1 (i := 1) (d := 50) (v := ?_) rfl (by kernel_rfl) (by kernel_rfl) (by kernel_rfl) rfl (fun _ _ _ h => h) (Or.inl ⟨by rfl, ?_⟩) (by assumption) ?_
          rotate_left
          · (intro w hSw; (try dsimp only at hSw); go_simp); with_reducible rfl
          simp only [List.set_cons_zero, List.set_cons_succ]
          refine take1 (i := 2) (d := 51) (v := ?_) rfl (by kernel_rfl) (by kernel_rfl) (by kernel_rfl) rfl (fun _ _ _ h => h) (Or.inl ⟨by rfl, ?_⟩) (by assumption) ?_
          rotate_left
          · (intro w hSw; (try dsimp only at hSw); go_simp); with_reducible rfl
          simp only [List.set_cons_zero, List.set_cons_succ]
          refine take1 (i := 3) (d := 52) (v := ?_) rfl (by kernel_rfl) (by kernel_rfl) (by kernel_rfl) rfl (fun _ _ _ h => h) (Or.inl ⟨by rfl, ?_⟩) (by assumption) ?_
          rotate_left
          · (intro w hSw; (try dsimp only at hSw); go_simp); with_reducible rfl
          simp only [List.set_cons_zero, List.set_cons_succ]
          refine take1 (i := 4) (d := 53) (v := ?_) rfl (by kernel_rfl) (by kernel_rfl) (by kernel_rfl) rfl (fun _ _ _ h => h) (Or.inl ⟨by rfl, ?_⟩) (by assumption) ?_
          rotate_left
          · (intro w hSw; (try dsimp only at hSw); go_simp); with_reducible rfl
          simp only [List.set_cons_zero, List.set_cons_succ]
          refine take1 (i := 5) (d := 54) (v := ?_) rfl (by kernel_rfl) (by kernel_rfl) (by kernel_rfl) rfl (fun _ _ _ h => h) (Or.inl ⟨by rfl, ?_⟩) (by assumption) ?_
          rotate_left
          · (intro w hSw; (try dsimp only at hSw); go_simp); with_reducible rfl
          simp only [List.set_cons_zero, List.set_cons_succ]
          refine take1 (i := 6) (d := 55) (v := ?_) rfl (by kernel_rfl) (by kernel_rfl) (by kernel_rfl) rfl (fun _ _ _ h => h) (Or.inl ⟨by rfl, ?_⟩) (by assumption) ?_
          rotate_left
          · (intro w hSw; (try dsimp only at hSw); go_simp); with_reducible rfl
          simp only [List.set_cons_zero, List.set_cons_succ]
          refine take1 (i := 7) (d := 56) (v := ?_) rfl (by kernel_rfl) (by kernel_rfl) (by kernel_rfl) rfl (fun _ _ _ h => h) (Or.inl ⟨by rfl, ?_⟩) (by assumption) ?_
          rotate_left
          · (intro w hSw; (try dsimp only at hSw); go_simp); with_reducible rfl
          simp only [List.set_cons_zero, List.set_cons_succ]
          refine take1 (i := 8) (d := 57) (v := ?_) rfl (by kernel_rfl) (by kernel_rfl) (by kernel_rfl) rfl (fun _ _ _ h => h) (Or.inl ⟨by rfl, ?_⟩) (by assumption) ?_
          rotate_left
          · (intro w hSw; (try dsimp only at hSw); go_simp); with_reducible rfl
          simp only [List.set_cons_zero, List.set_cons_succ]
          refine take1 (i := 9) (d := 58) (v := ?_) rfl (by kernel_rfl) (by kernel_rfl) (by kernel_rfl) rfl (fun _ _ _ h => h) (Or.inl ⟨by rfl, ?_⟩) (by assumption) ?_
          rotate_left
          · (intro w hSw; (try dsimp only at hSw); go_simp); with_reducible rfl
          simp only [List.set_cons_zero, List.set_cons_succ]
          refine take1 (i := 10) (d := 59) (v := ?_) rfl (by kernel_rfl) (by kernel_rfl) (by kernel_rfl) rfl (fun _ _ _ h => h) (Or.inl ⟨by rfl, ?_⟩) (by assumption) ?_
          rotate_left
          · (intro w hSw; (try dsimp only at hSw); go_simp); with_reducible rfl
          simp only [List.set_cons_zero, List.set_cons_succ]
          refine take1 (i := 11) (d := 60) (v := ?_) rfl (by kernel_rfl) (by kernel_rfl) (by kernel_rfl) rfl (fun _ _ _ h => h) (Or.inl ⟨by rfl, ?_⟩) (by assumption) ?_
          rotate_left
          · (intro w hSw; (try dsimp only at hSw); go_simp); with_reducible rfl
          simp only [List.set_cons_zero, List.set_cons_succ]
          refine take1 (i := 12) (d := 61) (v := ?_) rfl (by kernel_rfl) (by kernel_rfl) (by kernel_rfl) rfl (fun _ _ _ h => h) (Or.inl ⟨by rfl, ?_⟩) (by assumption) ?_
          rotate_left
          · (intro w hSw; (try dsimp only at hSw); go_simp); with_reducible rfl
          simp only [List.set_cons_zero, List.set_cons_succ]
          refine take1 (i := 13) (d := 62) (v := ?_) rfl (by kernel_rfl) (by kernel_rfl) (by kernel_rfl) rfl (fun _ _ _ h => h) (Or.inl ⟨by rfl, ?_⟩) (by assumption) ?_
          rotate_left
          · (intro w hSw; (try dsimp only at hSw); go_simp); with_reducible rfl
          simp only [List.set_cons_zero, List.set_cons_succ]
          refine take1 (i := 14) (d := 63) (v := ?_) rfl (by kernel_rfl) (by kernel_rfl) (by kernel_rfl) rfl (fun _ _ _ h => h) (Or.inl ⟨by rfl, ?_⟩) (by assumption) ?_
          rotate_left
          · (intro w hSw; (try dsimp only at hSw); go_simp); with_reducible rfl
          simp only [List.set_cons_zero, List.set_cons_succ]
          refine take1 (i := 15) (d := 64) (v := ?_) rfl (by kernel_rfl) (by kernel_rfl) (by kernel_rfl) rfl (fun _ _ _ h => h) (Or.inl ⟨by rfl, ?_⟩) (by assumption) ?_
          rotate_left
          · (intro w hSw; (try dsimp only at hSw); go_simp); with_reducible rfl
          simp only [List.set_cons_zero, List.set_cons_succ]
          refine wpAnyH_ready (rs := [0]) (by kernel_rfl) (by simp) (AllReadyH.cons rfl (fun Kreg hKreg => ?_) AllReadyH.nil)
          go_simp
          refine hKreg.out _ _ (by exact keepE _ kb.drew.bw) (fun hHeld => ?_)
          clear hKreg Kreg
          try simp only [Act.put, List.setIfInBounds_toArray, List.set_cons_zero, List.set_cons_succ]
          refine wpAnyH_ready (rs := [16]) (by kernel_rfl) (by simp) (AllReadyH.cons rfl (fun Kreg hKreg => ?_) AllReadyH.nil)
          go_simp
          (go_at_call 17; refine (HC.out _).mono ?_; rintro e w5 ⟨rfl, B5⟩; have kb := kb.drew.below B5; clear B5 a0 a1 a2 a3 a4 a5 a6 a7 a8 a9 a10 a11; obtain ⟨a0, a1, a2, a3, a4, a5, a6, a7, a8, a9, a10, a11⟩ := kb.i1.c12; obtain ⟨f0, f1, f2, f3, f4, f5, f6, f7, f8, f9, f10, f11⟩ := kb.i1.f12)
          go_wp2_with fail
          refine hKreg.out _ _ (by exact keepE _ kb.bw) (fun hHeld => ?_)
          clear hKreg Kreg
          try simp only [Act.put, List.setIfInBounds_toArray, List.set_cons_zero, List.set_cons_succ]
          refine wpAnyH_ready (rs := [17]) (by kernel_rfl) (by simp) (AllReadyH.cons rfl (fun Kreg hKreg => ?_) AllReadyH.nil)
          go_simp
          refine hKreg.out _ _ (by exact keepE _ (kb.set12 (by simpa using hne) hg9).bw) (fun hHeld => ?_)
          clear hKreg Kreg
          try simp only [Act.put, List.setIfInBounds_toArray, List.set_cons_zero, List.set_cons_succ]
          refine wpAnyH_done (by kernel_rfl) ?_ _
          go_wp2_with fail
          go_meet
          exact kb.set12 (by simpa using hne) hg9
        case rest =>
          clear kb a0 a1 a2 a3 a4 a5 a6 a7 a8 a9 a10 a11
          have kb := hcut
          clear hcut
          obtain ⟨c0, c1, c2, c3⟩ := KE.out _ kb.bw
          go_upto_region 9 with fail
          go_cut [81] (fun s81 wx => s81 = .bool (decide (ec = client ∧ (t client).seq < es)) ∧ Kg [(g9, 31, #[.int .u32 ((t' 0).seq : Int), .int .u8 ((t' 0).code : Int), .string (t' 0).text, .int .u32 ((t' 1).seq : Int), .int .u8 ((t' 1).code : Int), .string (t' 1).text, .int .u32 ((t' 2).seq : Int), .int .u8 ((t' 2).code : Int), .string (t' 2).text, .int .u32 ((t' 3).seq : Int), .int .u8 ((t' 3).code : Int), .string (t' 3).text]), (g11, 25, #[.int .u8 ((t client).code : Int), .string (t client).text])] w wx)
          case first =>
            by_cases h : ec = client
            · by_cases h2 : (t client).seq < es
              · have E1 : ((ec : Int) == (client : Int)) = true := by simp [h]
                have H := Lib.hid h
                have H2 := Lib.hid h2
                clear h
                go_wp2_with fail
                go_meet
                exact ⟨by simp [H.out, H2.out], kb⟩
              · have E1 : ((ec : Int) == (client : Int)) = true := by simp [h]
                have H := Lib.hid h
                have H2 := Lib.hid h2
                clear h
                go_wp2_with fail
                go_meet
                exact ⟨by simp [H2.out], kb⟩
            · have E1 : ((ec : Int) == (client : Int)) = false := beq_eq_false_iff_ne.2 (by omega)
              have H := Lib.hid h
              clear h
              go_wp2_with fail
              go_meet
              exact ⟨by simp [H.out], kb⟩
          case rest =>
            clear kb c0 c1 c2 c3
            obtain ⟨rfl, kb⟩ := hcut
            go_upto_if 81 with fail
            go_cut [10] (fun s10 wx => s10 = .int .u32 ((t' client).seq : Int) ∧ Kg [(g9, 31, #[.int .u32 ((t' 0).seq : Int), .int .u8 ((t' 0).code : Int), .string (t' 0).text, .int .u32 ((t' 1).seq : Int), .int .u8 ((t' 1).code : Int), .string (t' 1).text, .int .u32 ((t' 2).seq : Int), .int .u8 ((t' 2).code : Int), .string (t' 2).text, .int .u32 ((t' 3).seq : Int), .int .u8 ((t' 3).code : Int), .string (t' 3).text]), (g11, 25, #[.int .u8 ((t' client).code : Int), .string (t' client).text])] w wx)
            case first =>
              by_cases h : (ec = client ∧ (t client).seq < es)
              · have e : t' client = ⟨es, ek, et⟩ := HKT.out.trans (if_pos h)
                have he := Lib.hid e
                have hd : decide (ec = client ∧ (t client).seq < es) = true := decide_eq_true h
                rw [hd]
                clear e hd h
                obtain ⟨c0, c1, c2, c3⟩ := KE.out _ kb.bw
                obtain ⟨q0, q1⟩ := kb.i2.c2
                obtain ⟨f0, f1⟩ := kb.i2.f2
                go_wp2_with fail
                go_meet
                exact ⟨by rw [he.out], by rw [he.out]; exact (kb.swap.set2 (by simpa using hne.symm) hg11).swap⟩
              · have e : t' client = t client := HKT.out.trans (if_neg h)
                have he := Lib.hid e
                have hd : decide (ec = client ∧ (t client).seq < es) = false := decide_eq_false h
                rw [hd]
                clear e hd h
                go_wp2_with fail
                go_meet
                exact ⟨by rw [he.out], by rw [he.out]; exact kb⟩
            case rest =>
              clear kb
              obtain ⟨rfl, kb⟩ := hcut
              have hn : (t' client).seq ≠ 0 ∧ (t' client).seq < 4294967296 := by
                rw [HKT.out]
                split
                · rename_i hh; have h9 : (t client).seq < es := hh.2; exact ⟨Nat.ne_of_gt (Nat.lt_of_le_of_lt (Nat.zero_le _) h9), hes⟩
                · exact ⟨ht0, ht1⟩
              have hc4 : client < 4 := by omega
              have L1 : ∀ w, Calls Try.prog 18 #[.agg (tabC t'), .int .u8 (client : Int), .int .u32 ((t' client).seq : Int)] w fun e w' => e = .returned (.tuple #[.agg #[.int .u8 ((t' client).code : Int), .string (t' client).text], .int .u8 2]) ∧ Below w.heap.size w w' := fun w => by
                have := look_any t' client (t' client).seq w
                have e : lookN t' client (t' client).seq = ((t' client).code, (t' client).text, 2) := by
                  unfold lookN
                  rw [if_neg (by omega), if_neg (by omega), if_pos rfl]
                rw [e] at this
                exact this
              have L2 : 1 < (t' client).seq → ∀ (z : Int), z = ((t' client).seq : Int) - 1 → ∀ w, Calls Try.prog 18 #[.agg (tabC t'), .int .u8 (client : Int), .int .u32 z] w fun e w' => e = .returned (.tuple #[.agg #[.int .u8 3, .string ⟨#[]⟩], .int .u8 3]) ∧ Below w.heap.size w w' := fun h1 z hz w => by
                have := look_any t' client ((t' client).seq - 1) w
                have e : lookN t' client ((t' client).seq - 1) = (3, noText, 3) := by
                  unfold lookN
                  rw [if_neg (by omega), if_neg (by omega), if_neg (by omega)]
                rw [e] at this
                have ez : z = (((t' client).seq - 1 : Nat) : Int) := by omega
                rw [ez]
                exact this
              have L3 : (t' client).seq < 4294967295 → ∀ (z : Int), z = ((t' client).seq : Int) + 1 → ∀ w, Calls Try.prog 18 #[.agg (tabC t'), .int .u8 (client : Int), .int .u32 z] w fun e w' => e = .returned (.tuple #[.agg #[.int .u8 0, .string ⟨#[]⟩], .int .u8 1]) ∧ Below w.heap.size w w' := fun h1 z hz w => by
                have := look_any t' client ((t' client).seq + 1) w
                have e : lookN t' client ((t' client).seq + 1) = (0, noText, 1) := by
                  unfold lookN
                  rw [if_neg (by omega), if_pos (by omega)]
                rw [e] at this
                have ez : z = (((t' client).seq + 1 : Nat) : Int) := by omega
                rw [ez]
                exact this
              unfold tabC at L1 L2 L3
              have H1 := Lib.hid L1
              have H2 := Lib.hid L2
              have H3 := Lib.hid L3
              have HN := Lib.hid hn
              clear L1 L2 L3 hn ht0 ht1
              obtain ⟨a0, a1, a2, a3, a4, a5, a6, a7, a8, a9, a10, a11⟩ := kb.i1.c12
              go_wp2_with fail
              refine (H1.out _).mono ?_; rintro e w5 ⟨rfl, B5⟩
              have kb := kb.below B5
              clear B5 a0 a1 a2 a3 a4 a5 a6 a7 a8 a9 a10 a11
              obtain ⟨q0, q1⟩ := kb.i2.c2
              have s5 := kb.i2.lt
              dsimp only at s5
              have n5 : ¬ g11 = w5.heap.size := by omega
              have kb := kb.alloc (.cells #[.int .u8 ((t' client).code : Int), .string (t' client).text] 25)
              go_upto_if 107 with fail
              generalize w5.alloc (.cells #[.int .u8 ((t' client).code : Int), .string (t' client).text] 25) = w6 at *
              clear q0 q1 s5 n5
              go_cut [] (fun wx => Kg [(g9, 31, #[.int .u32 ((t' 0).seq : Int), .int .u8 ((t' 0).code : Int), .string (t' 0).text, .int .u32 ((t' 1).seq : Int), .int .u8 ((t' 1).code : Int), .string (t' 1).text, .int .u32 ((t' 2).seq : Int), .int .u8 ((t' 2).code : Int), .string (t' 2).text, .int .u32 ((t' 3).seq : Int), .int .u8 ((t' 3).code : Int), .string (t' 3).text]), (g11, 25, #[.int .u8 ((t' client).code : Int), .string (t' client).text])] w wx)
              case first =>
                by_cases h1 : 1 < (t' client).seq
                · obtain ⟨a0, a1, a2, a3, a4, a5, a6, a7, a8, a9, a10, a11⟩ := kb.i1.c12
                  have hw : IntKind.u32.wrap (((t' client).seq : Int) - 1) = ((t' client).seq : Int) - 1 := IntWalk.u32_in _ (by have := HN.out; omega)
                  go_wp2_with fail
                  refine (H2.out h1 _ (by first | rfl | exact hw) _).mono ?_; rintro e w7 ⟨rfl, B7⟩
                  have kb := kb.below B7
                  clear B7 a0 a1 a2 a3 a4 a5 a6 a7 a8 a9 a10 a11 hw
                  go_wp2_with fail
                  go_meet
                  exact kb.alloc _
                · go_wp2_with fail
                  go_meet
                  exact kb
              case rest =>
                clear kb
                have kb := hcut
                clear hcut
                by_cases h1 : (t' client).seq < 4294967295
                · obtain ⟨a0, a1, a2, a3, a4, a5, a6, a7, a8, a9, a10, a11⟩ := kb.i1.c12
                  have hw : IntKind.u32.wrap (((t' client).seq : Int) + 1) = ((t' client).seq : Int) + 1 := IntWalk.u32_in _ (by have := HN.out; omega)
                  have g1 : ((t' client).seq : Int) < 4294967295 := by omega
                  have H4 := Lib.hid h1
                  clear h1
                  go_wp2_with fail
                  refine (H3.out H4.out _ (by first | rfl | exact hw) _).mono ?_; rintro e w7 ⟨rfl, B7⟩
                  have kb := kb.below B7
                  clear B7 a0 a1 a2 a3 a4 a5 a6 a7 a8 a9 a10 a11 hw
                  go_wp2_with fail
                  go_roundg (l.length - (k + 1))
                  case measure => omega
                  case rel => exact ⟨k + 1, t', by omega, by go_num, rfl, (by unfold tabC repC; exact kb.alloc _), HN.out.1, HN.out.2⟩
                · have g1 : ¬ ((t' client).seq : Int) < 4294967295 := by omega
                  clear h1
                  go_wp2_with fail
                  go_roundg (l.length - (k + 1))
                  case measure => omega
                  case rel => exact ⟨k + 1, t', by omega, by go_num, rfl, (by unfold tabC repC; exact kb), HN.out.1, HN.out.2⟩
      · go_wp2_with fail
        refine (wakes12_any _).mono ?_; rintro e w9 ⟨rfl, B9⟩
        have kb := kb.below B9
        go_wp2
        go_ret
        exact ⟨rfl, kb.bw⟩
end Go.Proofs.Ytghicjkponnceaa.Sess
