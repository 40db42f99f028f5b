/- The walk of BallotBack: ballots put one behind the other are read one by one, and nothing is left. Conditions: the list can be read. -/
import Derived.Test.YtgoppdllknimfaaBalTake
import Derived.Test.YtgoppdllknimfaaBalPut2
import Derived.Deep.RegionHeld3
import Derived.Test.YtgoppdllknimfaaBalTurns
import Derived.Test.YtgoppdllknimfaaWireLaw
namespace Go.Proofs.Ytgoppdllknimfaa.Bal
open Go.RowKit Wire

/-! ### The plain law -/
def bytesB (l : List B) : List UInt8 := l.flatMap balB
theorem bytesB_snoc (l : List B) (b : B) : bytesB (l ++ [b]) = bytesB l ++ balB b := by unfold bytesB; rw [List.flatMap_append]; simp
theorem bytesB_cons (b : B) (l : List B) : bytesB (b :: l) = balB b ++ bytesB l := rfl
theorem balB_len (b : B) (h : Fits b) : (balB b).length ≤ 10 := by
  unfold balB
  have := (numB_length b.n h.1).1
  simp; omega
theorem bytesB_len (l : List B) (h : ∀ b ∈ l, Fits b) : (bytesB l).length ≤ 10 * l.length := by
  induction l with
  | nil => simp [bytesB]
  | cons b l ih =>
    rw [bytesB_cons, List.length_append, List.length_cons]
    have := balB_len b (h b (List.mem_cons_self ..))
    have := ih (fun x hx => h x (List.mem_cons_of_mem _ hx))
    omega
theorem balB_num (b : B) (h : Fits b) (rest : List UInt8) : Rd.num ⟨0, balB b ++ rest⟩ = (b.n, ⟨0, UInt8.ofNat b.r :: rest⟩) := by
  unfold balB
  rw [List.append_assoc]
  exact num_put_back b.n h.1 _
theorem balB_byte (b : B) (h : Fits b) (rest : List UInt8) : Rd.byte ⟨0, UInt8.ofNat b.r :: rest⟩ = (b.r, ⟨0, rest⟩) := by
  rw [byte_cons]
  have : (UInt8.ofNat b.r).toNat = b.r := by have := h.2; simp; omega
  rw [this]
theorem takeB_back (b : B) (h : Fits b) (hm : mayB b = true) (rest : List UInt8) : takeB ⟨0, balB b ++ rest⟩ = (b, ⟨0, rest⟩) := by
  unfold takeB
  rw [balB_num b h rest]
  simp only
  rw [balB_byte b h rest]
  simp only
  rw [if_pos hm]
  rfl

theorem own_own_ne {w : World} {b1 b2 : Nat} {e1 e2 : TypeId} {z1 z2 n1 n2 : Nat} {v1 v2 : Value} {x1 x2 : List Value} (h1 : w.ownsRow b1 e1 z1 v1 n1 x1) (h2 : w.ownsRow b2 e2 z2 v2 n2 x2) (hne : e1 ≠ e2) : v1.ownBlock = none ∨ v1.ownBlock ≠ v2.ownBlock := by
  rcases h2.2 with ⟨rfl, _⟩ | ⟨g, cap, cur, rfl, _, hh, _⟩
  · rcases h1.2 with ⟨rfl, _⟩ | ⟨g, cap, cur, rfl, _⟩
    · exact .inl rfl
    · right; simp [Value.ownBlock]
  · right
    exact own_blk_ne (g := g) (t := e2) (cs := _) h1 hh hne
/-! ### The walk -/
def PutAt (l : List B) (w : World) (gk : Nat) (s3 s4 s5 : Value) (wr : World) : Prop :=
  ∃ (k : Nat) (told : List B), k + gk = l.length ∧ s5 = .int .i64 (k : Int) ∧ told.length ≤ k ∧ wr.ownsRow w.heap.size 5 1 s3 (bytesB told).length (bv (bytesB told)) ∧
    Told wr w.heap.size s4 told ∧ Below w.heap.size w wr ∧ ∀ t ∈ told, Fits t ∧ mayB t = true
def BackAt (told : List B) (g : Nat) (v : Value) (w : World) (gk : Nat) (s7 : Value) (wr : World) : Prop :=
  ∃ j : Nat, j + gk = told.length ∧ s7 = .int .i64 (j : Int) ∧ RdAt wr g ⟨0, bytesB (told.drop j)⟩ ∧ Told wr w.heap.size v told ∧ Below w.heap.size w wr

set_option maxRecDepth 100000 in
set_option maxHeartbeats 20000000 in
theorem back_any (l : List B) (hl : l.length ≤ 9223372036854775807) (hfit : ∀ b ∈ l, Fits b) (A : Option Addr) (c : Nat) (w : World) (h : Balls w A l) :
    Calls Try.prog 13 #[.slice A l.length c] w fun e w' => e = .returned (.bool true) ∧ Below w.heap.size w w' := by
  obtain ⟨i0, hi, hz0, hz1, hz2⟩ := info_parts info_bal
  by_cases hb2 : 60 < l.length
  · go_enter Try.func13, Try.ntmps13
    go_wp2_with fail
    refine (wakes7_any _).mono ?_; rintro e w' ⟨rfl, hb⟩
    go_wp2
    go_ret
    exact ⟨rfl, hb⟩
  have HR := Lib.hid h
  have HF := Lib.hid hfit
  have HI := Lib.hid (And.intro hi (And.intro hz0 (And.intro hz1 hz2)))
  clear h hfit hi hz0 hz1 hz2
  go_enter Try.func13, Try.ntmps13
  go_wp2_with fail
  go_loopg [3, 4, 5] l.length (fun gk s3 s4 s5 wr => PutAt l w gk s3 s4 s5 wr)
  case atStart => exact ⟨0, [], by omega, rfl, by simp, ⟨rfl, .inl ⟨rfl, rfl⟩⟩, ⟨rfl, .inl ⟨rfl, rfl⟩⟩, Below.refl _ _, by simp⟩
  case round =>
    obtain ⟨k, told, hk, rfl, htl, hO, hT, hB, hft⟩ := hrel
    obtain ⟨A3, c3, rfl, r3⟩ := own_slice1 hO
    obtain ⟨At, ct, rfl, hbal⟩ := hT.form
    have HFT := Lib.hid hft
    have hlen := bytesB_len told (fun b hb => (hft b hb).1)
    by_cases hkl : k < l.length
    · have hx : l[k]? = some l[k] := List.getElem?_eq_getElem hkl
      have hfx := HF.out _ (List.getElem_mem hkl)
      generalize l[k] = x at hx hfx
      obtain ⟨xn, xr⟩ := x
      obtain ⟨ad, rfl, hlb, d0, d1⟩ := HR.out k _ hx
      rw [← add_next] at d1
      simp only at d0 d1
      have keepX : ∀ W, Below w.heap.size w W → (W.cell? (ad.add (k * 2)) = some (.int .u64 (xn : Int)) ∧ W.cell? { block := (ad.add (k * 2)).block, off := (ad.add (k * 2)).off + 1 } = some (.int .u8 (xr : Int))) :=
        fun W hW => ⟨(hW.cell (by rw [block_of_add]; exact hlb)).trans d0, (hW.cell (by simp only [block_of_add]; exact hlb)).trans d1⟩
      have HX := Lib.hid keepX
      have hc := chk_of ⟨xn, xr⟩
      have hck := check_any ⟨xn, xr⟩
      obtain ⟨m, hm⟩ : ∃ m, mayB ⟨xn, xr⟩ = m := ⟨_, rfl⟩
      generalize chkN ⟨xn, xr⟩ = ck at hc hck
      rw [hm] at hc
      have HC := Lib.hid hc
      have HK := Lib.hid hck
      have HM := Lib.hid hm
      have HLX := Lib.hid hx
      have HFX := Lib.hid hfx
      clear hc hck hm hx hfx keepX d0 d1 hft hbal
      obtain ⟨c0, c1⟩ := HX.out _ hB
      unfold bV bC at *
      go_wp2_with fail
      refine (HK.out _).mono ?_; rintro e w8 ⟨rfl, B8⟩
      have b8 := Al1.below B8
      have hT := hT.below b8
      have r3 := (r3.below b8).more b8.size
      have hO := own_below hO b8
      have hB := hB.trans (b8.mono hB.size)
      clear B8 b8 c0 c1
      cases m
      · obtain rfl := HC.out.2 rfl
        go_wp2_with fail
        go_roundg (l.length - (k + 1))
        case measure => omega
        case rel => exact ⟨k + 1, told, by omega, by go_num, by omega, hO, hT, hB, HFT.out⟩
      · obtain rfl := HC.out.1 rfl
        obtain ⟨c0, c1⟩ := HX.out _ hB
        have HO := Lib.hid hO
        have HR3 := Lib.hid r3
        clear hO r3
        go_wp2_with fail
        refine (put_own A3 c3 (bytesB told) ⟨xn, xr⟩ HFX.out.1 HFX.out.2 (by omega) _ HR3.out).mono ?_; rintro e w9 ⟨v9, rfl, own9, B9⟩
        have hT := hT.below B9
        have own9 := own_base own9 hB.size
        have hB := hB.trans (B9.mono hB.size)
        clear B9 c0 c1 HR3 HO
        obtain ⟨c0, c1⟩ := HX.out _ hB
        have H9 := Lib.hid own9
        clear own9
        have hlt := hT.lt
        have HA := Lib.hid HI.out
        go_wp2_with (at_builtin; go_must (refine wpList_append_any _ rfl (.tmp 30) (.tmp 35) _ rfl w.heap.size 25 i0 (.agg #[.int .u64 0, .int .u8 0]) 2 16 Try.underlying22 HA.out.1 HA.out.2.1 HA.out.2.2.1 HA.out.2.2.2 rfl (by omega) (.slice At told.length ct) told.length (balCells told) rfl (hT.alloc _) _ _ 1 1 [.int .u64 (xn : Int), .int .u8 (xr : Int)] rfl (reads_new2 w9 _ _ _) (by simp [Value.oneCell']) (by simp only [maxLen]; omega) (by omega) (Nat.le_trans hB.size (by simp)) ?_); intro v1 w1 hown1 hg1 hat1)
        have O1 := (H9.out.alloc _).kept hg1 (own_own_ne H9.out hT (by decide))
        have hB := (hB.alloc hB.size (.cells #[.int .u64 (xn : Int), .int .u8 (xr : Int)] 25)).grown hg1 (Nat.le_trans hB.size (by simp)) (fun o ho => (hlt o ho).1)
        have HW := Lib.hid hown1
        have HO1 := Lib.hid O1
        clear hown1 hg1 hat1 O1
        go_roundg (l.length - (k + 1))
        case measure => omega
        case rel =>
          refine ⟨k + 1, told ++ [⟨xn, xr⟩], by omega, by go_num, by (rw [List.length_append]; simp; omega), by (rw [bytesB_snoc]; exact HO1.out), ?_, hB, ?_⟩
          · unfold Told
            rw [balCells_snoc, List.length_append]
            exact HW.out
          · intro t ht
            rcases List.mem_append.1 ht with h1 | h1
            · exact HFT.out t h1
            · obtain rfl := List.mem_singleton.1 h1
              exact ⟨HFX.out, HM.out⟩
    · have hcv := conv_str Try.underlying37 Try.underlying5 Try.underlying9 c3 r3
      clear hO r3 hft hbal
      go_wp2_with fail
      refine (Wire.of_any (bytesB told) _).mono ?_; rintro e w2 ⟨rfl, rfl⟩
      have hT := hT.alloc (.cells (rdC ⟨0, bytesB told⟩) 80)
      have hg := hB.size
      have hB := hB.alloc hB.size (.cells (rdC ⟨0, bytesB told⟩) 80)
      have hrd := alloc_rd wr ⟨0, bytesB told⟩
      clear hcv
      generalize wr.alloc (.cells (rdC ⟨0, bytesB told⟩) 80) = w2 at *
      generalize wr.heap.size = g at *
      go_wp2_with fail
      go_loopg [7] told.length (fun gk s7 w3 => BackAt told g (.slice At told.length ct) w gk s7 w3)
      case atStart => exact ⟨0, by omega, rfl, hrd, hT, hB⟩
      case round =>
        clear hrd hT hB
        obtain ⟨j, hj, rfl, hrd, hT, hB⟩ := hrel
        by_cases hjl : j < told.length
        · have ht : told[j]? = some told[j] := List.getElem?_eq_getElem hjl
          have hf := HFT.out _ (List.getElem_mem hjl)
          have hdl : (told.drop (j + 1)).length ≤ 200 := by rw [List.length_drop]; omega
          have hrl := bytesB_len (told.drop (j + 1)) (fun b hb => (HFT.out b (List.mem_of_mem_drop hb)).1)
          rw [List.drop_eq_getElem_cons hjl, bytesB_cons] at hrd
          generalize told[j] = t at ht hf hrd
          generalize hrest : bytesB (told.drop (j + 1)) = rest at hrd hrl
          obtain ⟨tn, tr⟩ := t
          have hbl := balB_len ⟨tn, tr⟩ hf.1
          have hK : ∀ W, RdAt W g ⟨0, balB ⟨tn, tr⟩ ++ rest⟩ → Calls Try.prog 42 #[.pointer (some ⟨g, 0, none⟩)] W fun e w' => e = .returned (.agg #[.int .u64 (tn : Int), .int .u8 (tr : Int)]) ∧ RdGo W g ⟨0, rest⟩ w' := by
            intro W hW
            have h1 := take_bal g ⟨0, balB ⟨tn, tr⟩ ++ rest⟩ ⟨0, UInt8.ofNat tr :: rest⟩ ⟨0, rest⟩ tn tr (by rw [List.length_append]; omega) (balB_num ⟨tn, tr⟩ hf.1 rest) (by simp only [List.length_cons]; omega) (balB_byte ⟨tn, tr⟩ hf.1 rest) W hW
            rw [takeB_back ⟨tn, tr⟩ hf.1 hf.2 rest] at h1
            exact h1
          have keepT : ∀ W, Told W w.heap.size (.slice At told.length ct) told → ∃ ad', At = some ad' ∧ W.cell? (ad'.add (j * 2)) = some (.int .u64 (tn : Int)) ∧ W.cell? { block := (ad'.add (j * 2)).block, off := (ad'.add (j * 2)).off + 1 } = some (.int .u8 (tr : Int)) := by
            intro W hW
            obtain ⟨A', c', e', hb⟩ := hW.form
            obtain ⟨ad', ea, _, d0, d1⟩ := hb j _ ht
            rw [← add_next] at d1
            simp only [Value.slice.injEq] at e'
            exact ⟨ad', e'.1.trans ea, d0, d1⟩
          obtain ⟨ad', rfl, d0, d1⟩ := keepT _ hT
          have HKT := Lib.hid hK
          have HT2 := Lib.hid keepT
          have HE := Lib.hid hrest
          clear hK keepT hrest ht hf hrl hbl hdl
          go_wp2_with fail
          go_region_held3 (fun W : World => W.cell? (ad'.add (j * 2)) = some (.int .u64 (tn : Int)) ∧ W.cell? { block := (ad'.add (j * 2)).block, off := (ad'.add (j * 2)).off + 1 } = some (.int .u8 (tr : Int))) (exact ⟨d0, d1⟩)
            (first | (go_at_call 42; refine (HKT.out _ (Blk.drew hrd)).mono ?_; rintro e w9 ⟨rfl, g9⟩; have hT := (World.ownsRow.drew hT).kept g9.2 (.inr (own_blk_ne (World.ownsRow.drew hT) (Blk.drew hrd) (by decide))); have hB := hB.drew.trans (only_below g9.2 hg hB.drew.size); clear d0 d1; obtain ⟨ad2, e2, d0, d1⟩ := HT2.out _ hT; obtain rfl := Option.some.inj e2))
          all_goals
            go_wp2_with fail
            go_roundg (told.length - (j + 1))
            case measure => omega
            case rel => exact ⟨j + 1, by omega, by go_num, by (rw [HE.out]; exact g9.1), hT, hB⟩
        · obtain rfl : j = told.length := by omega
          have hr0 : RdAt wr g ⟨0, []⟩ := by
            have := hrd
            rw [List.drop_length] at this
            exact this
          clear hrd
          go_wp2_with fail
          refine (end_eq (r := ⟨0, []⟩) (p := ⟨0, []⟩) rfl _ hr0).mono ?_; rintro e w8 ⟨rfl, g8⟩
          have hB := hB.trans (only_below g8.2 hg hB.size)
          clear g8 hr0
          go_wp2_with fail
          refine (wakes7_any _).mono ?_; rintro e w9 ⟨rfl, B9⟩
          have hB := hB.trans (B9.mono hB.size)
          go_wp2
          go_ret
          exact ⟨rfl, hB⟩
end Go.Proofs.Ytgoppdllknimfaa.Bal
