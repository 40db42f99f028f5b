/- The law ThriftPlays, walked. Conditions: the list can be read. -/
import Derived.Test.YtbamfnlgapchkaaThWk
import Derived.Test.YtbamfnlgapchkaaBytes
namespace Go.Proofs.Ytbamfnlgapchkaa.Thr
open Go Go.RowKit Mem DrawInv Chn

def rowAt (me : Nat) (l : List Nat) (i : Nat) : List Nat := (l.take i).foldl (heardT me) []
theorem row_succ {me : Nat} {l : List Nat} {i x : Nat} (hx : l[i]? = some x) : rowAt me l (i + 1) = heardT me (rowAt me l i) x := by
  unfold rowAt
  rw [List.take_add_one, hx, List.foldl_append]
  rfl
/-- Whom both pick. -/
def pickN (me cf : Nat) (row : List Nat) : Nat := setN ((outT (listN cf) (allT me row cf)).take (needN cf))
theorem pick_ref (me cf : Nat) (row : List Nat) : setN (pickR (listN cf) (allT me row cf) []) = pickN me cf row := by
  unfold pickN
  rw [pick_ahead (list_nodup cf) _ [] List.nodup_nil (by simp) (by simp), List.nil_append, ahead_out]
  unfold needN
  rw [← len_list]
  simp
theorem pickN_lt (me cf : Nat) (row : List Nat) : pickN me cf row < 128 := set_lt _
/-- A list lies apart from a memory. -/
def Apart (A : Option Addr) (g : Nat) (v : Value) (w : World) : Prop := ∀ ad, A = some ad → ad.block < w.heap.size ∧ ad.block ≠ g ∧ v.ownBlock ≠ some ad.block
theorem Apart.step {A : Option Addr} {g : Nat} {v v' : Value} {w w' : World} (h : Apart A g v w) (s : QStep g v w v' w') : Apart A g v' w' := fun ad he => ⟨Nat.lt_of_lt_of_le (h ad he).1 s.out.size, (h ad he).2.1, fun hv => by
  rcases s.new _ hv with h' | h'
  · exact (h ad he).2.2 h'
  · have := (h ad he).1; omega⟩
theorem Apart.more {A : Option Addr} {g : Nat} {v : Value} {w w' : World} (h : Apart A g v w) (hs : w.heap.size ≤ w'.heap.size) : Apart A g v w' := fun ad he => ⟨Nat.lt_of_lt_of_le (h ad he).1 hs, (h ad he).2⟩
theorem Apart.from_ {A A' : Option Addr} {B g me : Nat} {row : List Nat} {v : Value} {w w' : World} (h : Apart A g v w) (q : ThS B g me row v w) (hf : FromB w A A' w') (hs : w.heap.size ≤ w'.heap.size) : Apart A' g v w' := fun ad he => by
  rcases hf ad he with ⟨ad0, e0, hb⟩ | ⟨h1, h2⟩
  · rw [← hb]; exact ⟨Nat.lt_of_lt_of_le (h ad0 e0).1 hs, (h ad0 e0).2⟩
  · exact ⟨h2, (by have := q.hg.lt; omega), fun e => by have := (q.ho.lt _ e).2; omega⟩
theorem reads_step {A : Option Addr} {g n : Nat} {v v' : Value} {w w' : World} {xs : List Value} (h : Reads w w.heap.size 1 A n xs) (s : QStep g v w v' w') (ha : Apart A g v w) : Reads w' w'.heap.size 1 A n xs :=
  ⟨h.1, fun hn => by
    obtain ⟨ad, e, hb, hc⟩ := h.2 hn
    refine ⟨ad, e, Nat.lt_of_lt_of_le hb s.out.size, fun j u hu => ?_⟩
    exact (s.cell (p := ad.add j) (by rw [block_of_add]; exact ⟨hb, (ha ad e).2.1, (ha ad e).2.2⟩)).trans (hc j u hu)⟩
set_option linter.unusedVariables false in
set_option maxRecDepth 100000 in
set_option maxHeartbeats 2000000 in
theorem tplays_any (me : Nat) (hme : me < 256) (l : List Nat) (hl : ∀ x ∈ l, x < 256) (n : Nat) (hn : l.length = n) (hn63 : n ≤ 9223372036854775807) (A : Option Addr) (c cf : Nat) (hcf : cf < 256) (w : World) (hr : Reads w w.heap.size 1 A n (l.map u8v)) : Calls Try.prog 8 #[.int .u8 (me : Int), .slice A n c, .int .u8 (cf : Int)] w fun e w' => e = .returned (.bool true) ∧ Below w.heap.size w w' := by
  by_cases h1 : 100 < n
  · have h1i : (100 : Int) < (n : Int) := by omega
    clear h1 hr hn hl hn63
    go_enter Try.func8, Try.ntmps8
    go_wp2_with fail
    refine (wakes_any w).mono ?_; rintro e w1 ⟨rfl, bw⟩
    go_wp2_with fail
    go_ret
    exact ⟨rfl, bw⟩
  have h1i : ¬ (100 : Int) < (n : Int) := by omega
  by_cases h2 : 6 < me
  · have h2i : (6 : Int) < (me : Int) := by omega
    have HB := Lib.hid (tnew_bad me h2 w)
    clear h1 h2 hr hn hl hn63
    go_enter Try.func8, Try.ntmps8
    go_wp2_with fail
    refine HB.out.mono ?_; rintro e w1 ⟨rfl, rfl⟩
    go_wp2_with fail
    refine (wakes_any w).mono ?_; rintro e w1 ⟨rfl, bw⟩
    go_wp2_with fail
    go_ret
    exact ⟨rfl, bw⟩
  have h2i : ¬ (6 : Int) < (me : Int) := by omega
  have HB := Lib.hid (tnew_any me (by omega) w)
  have HR := Lib.hid hr
  have HN := Lib.hid hn
  have HL := Lib.hid hl
  have HM : Hid (me < 7 ∧ cf < 256 ∧ n ≤ 100) := ⟨by omega, hcf, by omega⟩
  clear h1 h2 hr hn hl hn63 hme hcf
  go_enter Try.func8, Try.ntmps8
  go_wp2_with fail
  refine HB.out.mono ?_; rintro e w1 ⟨g, v, rfl, q, bw⟩
  clear HB
  go_wp2_with fail
  clear h1i h2i
  go_loopg [9, 10] (n + 1) (fun gk v9 v10 wr => ∃ (i m : Nat) (r : Value) (A9 : Option Addr) (c9 : Nat), i + gk = n + 1 ∧ v10 = .int .i64 (i : Int) ∧ v9 = .slice A9 m c9 ∧ Hid (m = (rowAt me l i).length) ∧ Hid (Reads wr wr.heap.size 1 A9 m ((rowAt me l i).map u8v)) ∧ ThS w.heap.size g me (rowAt me l i) r wr ∧ Hid (Apart A9 g r wr) ∧ Below w.heap.size w wr)
  case atStart => exact ⟨0, 0, v, none, 0, by omega, rfl, rfl, rfl, Reads.none_, q, (fun ad h => by cases h), bw⟩
  case round =>
    clear q bw
    obtain ⟨i, m, r, A9, c9, hi, rfl, rfl, HMM, HR9, q, HAP, bw⟩ := hrel
    obtain ⟨wo, rfl⟩ : ∃ wo : World, wo = wr := ⟨_, rfl⟩
    by_cases h4 : i ≤ n
    · have hk4 : (i : Int) ≤ (n : Int) := by omega
      obtain ⟨row, hrow⟩ : ∃ row, row = rowAt me l i := ⟨_, rfl⟩
      rw [← hrow] at HMM HR9 q
      have HROW := Lib.hid hrow
      have hr7 := row_len q.ok
      have HT := Lib.hid (trow_any q)
      have HQ := Lib.hid q
      have hm7 : m ≤ 7 := by rw [HMM.out]; exact hr7
      have HI := Lib.hid hi
      clear hrow q hi hr7
      go_wp2_with fail
      refine HT.out.mono ?_; rintro e w3 hrr
      clear HT
      obtain ⟨u, rfl, _, ho3, B3⟩ := hrr
      rw [← HMM.out] at ho3
      obtain ⟨A3, c3, hu3, hmc, hr3⟩ := Byt.own_slice1 ho3
      have hform := ho3.form
      subst hu3
      have hl256 : ∀ x ∈ row, x < 256 := fun x hx => by have := HQ.out.ok.lt x hx; omega
      have hbv := Byt.by8_bv hl256
      have hr9' := (HR9.out.below B3).more B3.size
      have hc1 : (convert 22 9 (.slice A3 m c3)).run Try.prog w3 = .ok (.string ⟨(Byt.by8 row).toArray⟩) w3 := Byt.conv_str Try.underlying22 Try.underlying5 Try.underlying9 c3 (B := w3.heap.size) (by rw [hbv]; exact hr3)
      have hc2 : (convert 22 9 (.slice A9 m c9)).run Try.prog w3 = .ok (.string ⟨(Byt.by8 row).toArray⟩) w3 := Byt.conv_str Try.underlying22 Try.underlying5 Try.underlying9 c9 (B := w3.heap.size) (by rw [hbv]; exact hr9')
      generalize (⟨(Byt.by8 row).toArray⟩ : ByteArray) = st at *
      have q3 := HQ.out.below B3
      have HPK := Lib.hid (tpick_any q3 HM.out.1 cf HM.out.2.1)
      have hpe : setN ((outT (listN cf) (allT me row cf)).take (needN cf)) = pickN me cf row := rfl
      rw [hpe] at HPK
      have HRP := Lib.hid (fun (W : World) (hW : Below w3.heap.size w3 W) => rpick_any me cf HM.out.2.1 row m HMM.out.symm (by omega) A9 c9 W ((hr9'.below hW).more hW.size))
      rw [pick_ref] at HRP
      have HO3 := Lib.hid ho3
      have HF3 := Lib.hid hform
      have HB3 := Lib.hid B3
      generalize pickN me cf row = pk at *
      clear hbv hr9' hl256 q3 hr3 ho3 hform B3 hpe
      go_wp2_with fail
      refine HPK.out.mono ?_; rintro e w4 ⟨rfl, B4⟩
      clear HPK hc1 hc2
      go_wp2_with fail
      refine (HRP.out _ B4).mono ?_; rintro e w5 ⟨rfl, B5⟩
      have B35 := B4.trans (B5.mono B4.size)
      have HB5 := Lib.hid B35
      have ho5 := own1_below HO3.out B35 (fun r hr => (HO3.out.lt r hr).2)
      have HO5 := Lib.hid ho5
      clear HRP B4 B5 B35 ho5
      go_wp2_with fail
      have hbz : Below wo.heap.size w5 w5 := Below.refl _ _
      go_loopg [12] m (fun gk2 v12 wr => ∃ (k : Nat), k + gk2 = m ∧ v12 = .int .i64 (k : Int) ∧ Below wo.heap.size w5 wr ∧ Hid (0 < m → ∃ gb cs, A3 = some ⟨gb, 0, none⟩ ∧ wo.heap.size ≤ gb ∧ Blk wr gb 5 cs ∧ m ≤ cs.size))
      case atStart => exact ⟨0, by omega, rfl, hbz, (fun h0 => by
        rcases HO5.out.2 with ⟨he, _⟩ | ⟨gb, cap, cur, hv, hb, hh, hn1, _, hs, _⟩
        · cases he; omega
        · cases hv; exact ⟨gb, cur, rfl, hb, hh, by rw [hs]; omega⟩)⟩
      case round =>
        clear hbz
        obtain ⟨k, hk, rfl, bi, HG⟩ := hrel
        by_cases h5 : k < m
        · have hk5 : (k : Int) < (m : Int) := by omega
          obtain ⟨gb, cs, hA3, hgb, hblk, hms⟩ := HG.out (by omega)
          obtain ⟨ad, had⟩ : ∃ ad : Addr, ad = ⟨gb, 0, none⟩ := ⟨_, rfl⟩
          rw [← had] at hA3
          subst hA3
          have HAD : Hid (∀ j, ad.add j = ⟨gb, j, none⟩) := fun j => by subst had; unfold Addr.add; by_cases h : j = 0 <;> simp [h]
          obtain ⟨u0, hu0⟩ : ∃ u0, wr.cell? (ad.add k) = some u0 := ⟨cs[k]'(by omega), by rw [HAD.out, hblk.cell]; exact Array.getElem?_eq_getElem _⟩
          have f0 : wr.frozen? (ad.add k) = false := by rw [HAD.out]; exact hblk.frozen k
          have HB2 : Hid (Below wo.heap.size w5 (wr.setCell (ad.add k) (.int .u8 99))) := bi.setCell (by rw [HAD.out]; exact hgb) _
          have HG2 : Hid (0 < m → ∃ gb cs, some ad = some ⟨gb, 0, none⟩ ∧ wo.heap.size ≤ gb ∧ Blk (wr.setCell (ad.add k) (.int .u8 99)) gb 5 cs ∧ m ≤ cs.size) := fun _ => ⟨gb, cs.setIfInBounds k (.int .u8 99), by rw [had], hgb, by rw [HAD.out]; exact hblk.set_ k _, by rw [Array.size_setIfInBounds]; exact hms⟩
          clear hblk hms bi HG had
          go_wp2_with fail
          go_roundg (m - (k + 1))
          case measure => omega
          case rel => exact ⟨k + 1, by omega, by go_num, HB2.out, HG2.out⟩
        · have hk5 : ¬ (k : Int) < (m : Int) := by omega
          have bri : Below wo.heap.size wo wr := (HB3.out.trans (HB5.out.mono HB3.out.size)).trans bi
          have bwi := bw.trans (bri.mono bw.size)
          have hr6 := (HR9.out.below bri).more bri.size
          have q6 := HQ.out.below bri
          by_cases h6 : i < n
          · have hk6 : (i : Int) < (n : Int) := by omega
            obtain ⟨ad, ux, rfl, hadl, hu, hcell⟩ := HR.out.at_ h6
            obtain ⟨x, hx, hux⟩ : ∃ x, l[i]? = some x ∧ ux = .int .u8 (x : Int) := by
              rw [List.getElem?_map] at hu
              cases hd : l[i]? with
              | none => rw [hd] at hu; cases hu
              | some y => rw [hd] at hu; exact ⟨y, rfl, (Option.some.inj hu).symm⟩
            subst hux
            have HC := Lib.hid (fun (W : World) (b : Below w.heap.size w W) => (b.cell (p := ad.add i) (by rw [block_of_add]; exact hadl)).trans hcell)
            have c6 := HC.out _ bwi
            have HH := Lib.hid (theard_any q6 bwi.size x)
            have hsx := row_succ (me := me) hx
            rw [← HROW.out] at hsx
            have HS := Lib.hid hsx
            have HQ6 := Lib.hid q6
            have HR6 := Lib.hid hr6
            have HBW := Lib.hid bwi
            have hap6 := HAP.out.more bri.size
            have HAP6 := Lib.hid hap6
            have hi100 : (i : Int) ≤ 100 := by have := HM.out.2.2; omega
            clear hu hcell hsx q6 hr6 bri hap6 hx
            go_wp2_with fail
            refine HH.out.mono ?_; rintro e w7 hret
            obtain ⟨rfl, v7, q7, s7⟩ := hret
            have bw7 := HQ6.out.bw q7 s7 HBW.out (Nat.le_refl _)
            have hr7 := reads_step HR6.out s7 HAP6.out
            have ha7 := HAP6.out.step s7
            have HRH := Lib.hid (rheard_any me x row m HMM.out.symm (by omega) A9 c9 w7 hr7)
            have c7 := HC.out _ bw7
            have HQ7 := Lib.hid (And.intro q7 (And.intro ha7 bw7))
            clear HH q7 s7 bw7 hr7 ha7 c6 bwi
            go_wp2_with fail
            refine HRH.out.mono ?_; rintro e w8 hrr8
            clear HRH
            obtain ⟨A8, k8, m8, rfl, hm8, hr8, hf8, B8⟩ := hrr8
            have ha8 := HQ7.out.2.1.from_ HQ7.out.1 hf8 B8.size
            have q8 := HQ7.out.1.below B8
            have bw8 := HQ7.out.2.2.trans (B8.mono HQ7.out.2.2.size)
            rw [← HS.out] at hm8 hr8 q8
            have H8 := Lib.hid (And.intro hm8 (And.intro hr8 (And.intro ha8 (And.intro q8 bw8))))
            clear hm8 hr8 hf8 B8 ha8 q8 bw8
            go_wp2_with fail
            go_roundg (n + 1 - (i + 1))
            case measure => have := HI.out; omega
            case rel => exact ⟨i + 1, m8, v7, A8, k8, by have := HI.out; omega, by go_num, rfl, H8.out.1, H8.out.2.1, H8.out.2.2.2.1, H8.out.2.2.1, H8.out.2.2.2.2⟩
          · have hk6 : ¬ (i : Int) < (n : Int) := by omega
            obtain rfl : i = n := by omega
            have hs1 : rowAt me l (i + 1) = row := by rw [HROW.out]; unfold rowAt; rw [List.take_of_length_le (by rw [HN.out]; omega), List.take_of_length_le (by rw [HN.out]; omega)]
            have H8 : Hid (m = (rowAt me l (i + 1)).length ∧ Reads wr wr.heap.size 1 A9 m ((rowAt me l (i + 1)).map u8v) ∧ ThS w.heap.size g me (rowAt me l (i + 1)) r wr ∧ Apart A9 g r wr) := by
              show _ ∧ _
              rw [hs1]
              exact ⟨HMM.out, hr6, q6, HAP.out.more bri.size⟩
            have hi100 : (i : Int) ≤ 100 := by have := HM.out.2.2; omega
            clear hs1 hr6 q6 bri
            go_wp2_with fail
            go_roundg (i + 1 - (i + 1))
            case measure => have := HI.out; omega
            case rel => exact ⟨i + 1, m, r, A9, c9, by have := HI.out; omega, by go_num, rfl, H8.out.1, H8.out.2.1, H8.out.2.2.1, H8.out.2.2.2, bwi⟩
    · have hk4 : ¬ (i : Int) ≤ (n : Int) := by omega
      clear q HR9 HAP HMM
      go_wp2_with fail
      refine (wakes_any wo).mono ?_; rintro e w2 ⟨rfl, B2⟩
      have bz := bw.trans (B2.mono bw.size)
      go_wp2_with fail
      go_ret
      exact ⟨rfl, bz⟩
end Go.Proofs.Ytbamfnlgapchkaa.Thr
