/- The law WireBack walked. Conditions: the list of items can be read. -/
import Derived.Test.YtgoppdllknimfaaWireItems
import Derived.Test.YtgoppdllknimfaaOpenRows
import Derived.Test.YtgoppdllknimfaaWireConv
import Derived.Test.YtgoppdllknimfaaKeepR
import Derived.Test.YtgoppdllknimfaaWireWakes
import Derived.Deep.LoopGhost
import Derived.Deep.DeepCutAuto
namespace Go.Proofs.Ytgoppdllknimfaa.Wire
open Go.RowKit

def It.Fits (x : It) : Prop := x.n < 18446744073709551616 ∧ x.s.length ≤ 9223372036854775807
def itC (x : It) : List Value := [.bool x.text, .int .u64 (x.n : Int), .string ⟨x.s.toArray⟩]
set_option linter.unusedSimpArgs false in
theorem dec_it {w : World} : ∀ n es, es.length = 3 → Leafy Try.prog w n 54 es → ∃ x, It.Fits x ∧ es = itC x := by
  intro n es hlen h
  match es, hlen with
  | [c0, c1, c2], _ =>
    have e0 : Try.prog.cellsOf 4 = 1 := by kernel_rfl
    have e1 : Try.prog.cellsOf 9 = 1 := by kernel_rfl
    have e2 : Try.prog.cellsOf 23 = 1 := by kernel_rfl
    obtain ⟨m1, _, hf1⟩ := leafy_struct Try.underlying54 h
    have g1_0 : Leafy Try.prog w m1 4 ((([c0, c1, c2] : List Value).drop 0).take (Try.prog.cellsOf 4)) := hf1 0 _ rfl
    rw [e0] at g1_0
    simp only [List.drop_zero, List.drop_succ_cons, List.take_succ_cons, List.take_zero] at g1_0
    have g1_1 : Leafy Try.prog w m1 23 ((([c0, c1, c2] : List Value).drop 1).take (Try.prog.cellsOf 23)) := hf1 1 _ rfl
    rw [e2] at g1_1
    simp only [List.drop_zero, List.drop_succ_cons, List.take_succ_cons, List.take_zero] at g1_1
    have g1_2 : Leafy Try.prog w m1 9 ((([c0, c1, c2] : List Value).drop 2).take (Try.prog.cellsOf 9)) := hf1 2 _ rfl
    rw [e1] at g1_2
    simp only [List.drop_zero, List.drop_succ_cons, List.take_succ_cons, List.take_zero] at g1_2
    obtain ⟨x0, q0⟩ := leafy_bool Try.underlying4 g1_0
    obtain rfl : c0 = _ := List.head_eq_of_cons_eq q0
    obtain ⟨z1, q1, w1⟩ := leafy_int Try.underlying23 g1_1
    obtain rfl : c1 = _ := List.head_eq_of_cons_eq q1
    have b1 := bounds_u64 w1
    obtain ⟨x1, rfl⟩ := Int.eq_ofNat_of_zero_le b1.1
    obtain ⟨x2, q2, b2⟩ := leafy_string Try.underlying9 g1_2
    obtain rfl : c2 = _ := List.head_eq_of_cons_eq q2
    exact ⟨⟨x0, x1, x2⟩, by simp only [It.Fits]; omega, rfl⟩

theorem Reads.pre {w : World} {B n k : Nat} {A : Option Addr} {xs : List Value} (h : Reads w B 1 A n xs) (hk : k ≤ n) : Reads w B 1 A k (xs.take k) := by
  refine ⟨by rw [List.length_take, h.1]; omega, fun h0 => ?_⟩
  obtain ⟨ad, e, hb, hc⟩ := h.2 (by omega)
  exact ⟨ad, e, hb, fun j u hu => hc j u (by
    rw [List.getElem?_take] at hu
    split at hu
    · exact hu
    · cases hu)⟩

theorem own_slice2 {w : World} {base : Nat} {e : TypeId} {v : Value} {n : Nat} {xs : List Value} (h : w.ownsRow base e 1 v n xs) : ∃ A c, v = .slice A n c ∧ n ≤ c ∧ Reads w w.heap.size 1 A n xs := by
  have h' := h
  rcases h.2 with ⟨rfl, rfl⟩ | ⟨g, cap, cur, rfl, _, _, hc, _⟩
  · obtain rfl : xs = [] := List.eq_nil_of_length_eq_zero (by simpa using h.1)
    exact ⟨none, 0, rfl, Nat.le_refl _, Reads.none_⟩
  · exact ⟨_, _, rfl, hc, Reads.of_own h'⟩
/-- What holds at the head of a round of the first loop. -/
def BackAt (l : List It) (w : World) (gk : Nat) (s5 s6 : Value) (wr : World) : Prop :=
  ∃ (k : Nat) (B : List UInt8) (A : Option Addr) (c : Nat), k + gk = l.length ∧ s6 = .int .i64 (k : Int) ∧ s5 = .slice A B.length c ∧ B.length ≤ c ∧ Hid (B = itsB (l.take k)) ∧ B.length ≤ 109 * k ∧ (∀ x ∈ l.take k, x.s.length ≤ 100) ∧ Reads wr wr.heap.size 1 A B.length (bv B) ∧ Below w.heap.size w wr

/-- What holds at the head of a round of the second loop. -/
def Back2At (l : List It) (wr : World) (g8 c gk : Nat) (i : Value) (wx : World) : Prop :=
  ∃ k : Nat, k + gk = l.length ∧ i = .int .i64 (k : Int) ∧ Kg [(g8, 80, rdC ⟨0, itsB (l.drop k) ++ [UInt8.ofNat c]⟩), (wr.heap.size, 80, rdC ⟨0, itsB (l.drop k)⟩)] wr wx
/-- What holds at the head of a round of the third loop. -/
def Back3At (l : List It) (wr : World) (g gk : Nat) (i : Value) (wx : World) : Prop :=
  ∃ (k : Nat) (q : Rd), k + gk = l.length ∧ i = .int .i64 (k : Int) ∧ LessAt l k q ∧ q.rest.length ≤ 10000 ∧ Kg [(g, 80, rdC q)] wr wx
theorem itR_rest (q : Rd) (x : It) : (itR q x).rest.length ≤ q.rest.length := by
  unfold itR
  split
  · unfold Rd.str
    exact Nat.le_trans (take_rest rfl) (below_rest rfl)
  · exact num_rest rfl
set_option maxRecDepth 100000 in
set_option maxHeartbeats 16000000 in
theorem back_any (l : List It) (hl : l.length ≤ 9223372036854775807) (hf : ∀ x ∈ l, It.Fits x) (c : Nat) (hc : c < 256) (A : Option Addr) (cap : Nat) (w : World) (h : Rows w A 3 itC l) :
    Calls Try.prog 9 #[.slice A l.length cap, .int .u8 (c : Int)] w fun e w' => e = .returned (.bool true) ∧ Below w.heap.size w w' := by
  by_cases hl2 : 60 < l.length
  · go_enter Try.func9, Try.ntmps9
    go_wp2_with (go_at_call 24; refine (wakes_any _).mono ?_; rintro e w' ⟨rfl, hb⟩)
    go_ret
    exact ⟨rfl, hb⟩
  go_enter Try.func9, Try.ntmps9
  go_wp2_with fail
  go_loopg [5, 6] l.length (fun gk s5 s6 wr => BackAt l w gk s5 s6 wr)
  case atStart => exact ⟨0, [], none, 0, by omega, rfl, rfl, by simp, rfl, by simp, by simp, Reads.none_, Below.refl _ _⟩
  case round =>
    obtain ⟨k, B, A1, c1, hk, rfl, rfl, hcap, hB, hBl, hsh, hr, hbw⟩ := hrel
    by_cases hlt : k < l.length
    · obtain ⟨x, hx⟩ : ∃ x, l[k]? = some x := ⟨_, List.getElem?_eq_getElem hlt⟩
      have hxf := hf x (List.mem_of_getElem? hx)
      obtain ⟨ad, rfl, hadl, a0, a1⟩ := h.at_ hx
      have a1' := a1 0
      have a2' := a1 1
      have a0 := (hbw.cell (by rw [block_of_add]; exact hadl)).trans (a0 _ rfl)
      have a1 := (hbw.cell (by show (ad.add (k * 3)).block < _; rw [block_of_add]; exact hadl)).trans (a1' _ rfl)
      have a2 := (hbw.cell (by show (ad.add (k * 3)).block < _; rw [block_of_add]; exact hadl)).trans (a2' _ rfl)
      clear a1' a2'
      have hst := itsB_take l k x hx
      have hil : x.s.length ≤ 100 → (itB x).length ≤ 109 := fun h1 => (itB_len x ⟨hxf.1, h1⟩).2
      have htk : l.take (k + 1) = l.take k ++ [x] := by rw [List.take_add_one, hx]; rfl
      unfold itB at hil hst
      obtain ⟨xt, xn, xs⟩ := x
      obtain ⟨f1, f2⟩ := hxf
      simp only at f1 f2 a0 a1 a2 hil hst
      have hsz := size_str xs
      have HST := Lib.hid hst
      have HTK := Lib.hid htk
      have hki : (k : Int) < (l.length : Int) := by omega
      clear hst hx htk
      by_cases hs : 100 < xs.length
      · have hs2 : (100 : Int) < (xs.length : Int) := by omega
        go_wp2_with (go_at_call 24; refine (wakes_any _).mono ?_; rintro e w1 ⟨rfl, B1⟩)
        go_ret
        exact ⟨rfl, hbw.trans (B1.mono hbw.size)⟩
      · have hs2 : ¬ (100 : Int) < (xs.length : Int) := by omega
        have hil := hil (by omega)
        have hsh' : ∀ y ∈ l.take (k + 1), y.s.length ≤ 100 := by
          rw [HTK.out]
          intro y hy
          rcases List.mem_append.1 hy with hy | hy
          · exact hsh y hy
          · obtain rfl := List.mem_singleton.1 hy; show xs.length ≤ 100; omega
        cases xt
        · simp only [Bool.false_eq_true, if_false] at hil
          have hput := num_put A1 c1 B xn f1 (by omega) wr hr
          have HP := Lib.hid hput
          clear hput hs
          go_wp2_with fail
          refine HP.out.mono ?_; rintro e w2 ⟨v, rfl, own, B2⟩
          have hbl : (B ++ numB xn).length ≤ 109 * (k + 1) := by rw [List.length_append]; omega
          have hB' : Hid (B ++ numB xn = itsB (l.take (k + 1))) := by show _ = _; rw [HST.out, hB.out]; rfl
          generalize B ++ numB xn = B' at *
          obtain ⟨A2, c2, rfl, hcap2, r2⟩ := own_slice2 own
          have hbw2 := hbw.trans (B2.mono hbw.size)
          clear own a0 a1 a2 HP
          go_wp2_with fail
          go_roundg (l.length - (k + 1))
          case measure => omega
          case rel => exact ⟨k + 1, B', A2, c2, by omega, by go_num, rfl, hcap2, hB', hbl, hsh', r2, hbw2⟩
        · simp only [if_true] at hil
          have hput := str_put A1 c1 B xs (by omega) (by omega) wr hr
          have HP := Lib.hid hput
          clear hput hs
          go_wp2_with fail
          refine HP.out.mono ?_; rintro e w2 ⟨v, rfl, own, B2⟩
          have hbl : (B ++ strB xs).length ≤ 109 * (k + 1) := by rw [List.length_append]; omega
          have hB' : Hid (B ++ strB xs = itsB (l.take (k + 1))) := by show _ = _; rw [HST.out, hB.out]; rfl
          generalize B ++ strB xs = B' at *
          obtain ⟨A2, c2, rfl, hcap2, r2⟩ := own_slice2 own
          have hbw2 := hbw.trans (B2.mono hbw.size)
          clear own a0 a1 a2 HP
          go_wp2_with fail
          go_roundg (l.length - (k + 1))
          case measure => omega
          case rel => exact ⟨k + 1, B', A2, c2, by omega, by go_num, rfl, hcap2, hB', hbl, hsh', r2, hbw2⟩
    · obtain rfl : k = l.length := by omega
      rw [List.take_length] at hB hsh
      have hok : ∀ x ∈ l, x.Ok := fun x hx => ⟨(hf x hx).1, hsh x hx⟩
      have hlb := (itsB_len l hok).1
      rw [← hB.out] at hlb
      have hlb2 : ¬ ((B.length : Int) < (l.length : Int)) := by omega
      have hcv := conv_str Try.underlying37 Try.underlying5 Try.underlying9 c1 hr
      obtain ⟨wo, rfl⟩ : ∃ wo : World, wo = wr := ⟨_, rfl⟩
      go_wp2_with fail
      refine (of_any B _).mono ?_; rintro e w1 ⟨rfl, rfl⟩
      have k1 := (Kg.refl wo).new 80 (rdC ⟨0, B⟩)
      have hr1 := (hr.below k1.bw).more k1.bw.size
      have hz := k1.i1.lt
      simp only at hz
      generalize wo.alloc (.cells (rdC ⟨0, B⟩) 80) = w1 at *
      have hcv2 := conv_str Try.underlying37 Try.underlying5 Try.underlying9 c1 hr1
      have hcv3 := conv_str Try.underlying37 Try.underlying5 Try.underlying9 1 (one_reads w1 hc)
      have ad := add_str B [UInt8.ofNat c]
      have lt1 : ¬ (9223372036854775807 < B.length + 1) := by omega
      clear hcv
      go_wp2_with fail
      refine (of_any (B ++ [UInt8.ofNat c]) _).mono ?_; rintro e w2 ⟨rfl, rfl⟩
      have k2 := (k1.alloc (.cells #[.int .u8 (c : Int)] 5)).new 80 (rdC ⟨0, B ++ [UInt8.ofNat c]⟩)
      have ez : (w1.alloc (.cells #[.int .u8 (c : Int)] 5)).heap.size = w1.heap.size + 1 := by simp
      rw [ez] at k2
      generalize (w1.alloc (.cells #[.int .u8 (c : Int)] 5)).alloc (.cells (rdC ⟨0, B ++ [UInt8.ofNat c]⟩) 80) = w2 at *
      clear hcv2 hcv3 ad lt1 ez hr1 k1
      go_wp2_with fail
      go_loopg [9] l.length (fun gk i wx => Back2At l wo (w1.heap.size + 1) c gk i wx)
      case atStart => exact ⟨0, by omega, rfl, by rw [List.drop_zero, ← hB.out]; exact k2⟩
      case round =>
        clear k2
        obtain ⟨k, hk, rfl, kg⟩ := hrel
        by_cases hlt : k < l.length
        · obtain ⟨x, hx⟩ : ∃ x, l[k]? = some x := ⟨_, List.getElem?_eq_getElem hlt⟩
          have hxo := hok x (List.mem_of_getElem? hx)
          obtain ⟨ad, rfl, hadl, a0, a1⟩ := h.at_ hx
          have a1' := a1 0
          have a2' := a1 1
          have a0 := a0 _ rfl
          have a1 := a1' _ rfl
          have a2 := a2' _ rfl
          have hdr := itsB_drop l k x hx
          have hdl := (itsB_len (l.drop k) (fun y hy => hok y (List.mem_of_mem_drop hy))).2
          rw [List.length_drop] at hdl
          clear a1' a2'
          unfold itB at hdr
          obtain ⟨xt, xn, xs⟩ := x
          obtain ⟨f1, f2⟩ := hxo
          simp only at f1 f2 a0 a1 a2 hdr
          have hS : ∀ L W, Kg L wo W → W.cell? (ad.add (k * 3)) = some (.bool xt) ∧ W.cell? { block := (ad.add (k * 3)).block, off := (ad.add (k * 3)).off + 1 } = some (.int .u64 (xn : Int)) ∧ W.cell? { block := (ad.add (k * 3)).block, off := (ad.add (k * 3)).off + 2 } = some (.string ⟨xs.toArray⟩) := fun L W K => by
            have hb := hbw.trans (K.bw.mono hbw.size)
            exact ⟨(hb.cell (by rw [block_of_add]; exact hadl)).trans a0, (hb.cell (by show (ad.add (k * 3)).block < _; rw [block_of_add]; exact hadl)).trans a1, (hb.cell (by show (ad.add (k * 3)).block < _; rw [block_of_add]; exact hadl)).trans a2⟩
          have HS := Lib.hid hS
          have hki : (k : Int) < (l.length : Int) := by omega
          have hgz : wo.heap.size < w1.heap.size + 1 := by omega
          clear a0 a1 a2 hx hS
          cases xt
          · simp only [Bool.false_eq_true, if_false] at hdr
            have e1 : Rd.num ⟨0, itsB (l.drop k)⟩ = (xn, ⟨0, itsB (l.drop (k + 1))⟩) := by rw [hdr]; exact num_put_back xn f1 _
            have e2 : Rd.num ⟨0, itsB (l.drop k) ++ [UInt8.ofNat c]⟩ = (xn, ⟨0, itsB (l.drop (k + 1)) ++ [UInt8.ofNat c]⟩) := by rw [hdr, List.append_assoc]; exact num_put_back xn f1 _
            have h1 := fun W hW => num_eq (g := wo.heap.size) e1 (by show (itsB (l.drop k)).length < _; omega) W hW
            have h2 := fun W hW => num_eq (g := w1.heap.size + 1) e2 (by show (itsB (l.drop k) ++ [UInt8.ofNat c]).length < _; rw [List.length_append, List.length_singleton]; omega) W hW
            unfold NumRet at h1 h2
            have H1 := Lib.hid h1
            have H2 := Lib.hid h2
            clear h1 h2 e1 e2 hdr
            go_wp2_with fail
            have kg := kg.drew
            refine wp_region_held_drew (S := (fun W : World => W.cell? (ad.add (k * 3)) = some (.bool false) ∧ W.cell? { block := (ad.add (k * 3)).block, off := (ad.add (k * 3)).off + 1 } = some (.int .u64 (xn : Int)) ∧ W.cell? { block := (ad.add (k * 3)).block, off := (ad.add (k * 3)).off + 2 } = some (.string ⟨xs.toArray⟩))) (by kernel_rfl) (HS.out _ _ kg) (fun hHeld => ?_)
            refine take1 (i := 0) (d := 70) (v := ?_) rfl (by kernel_rfl) (by kernel_rfl) (by kernel_rfl) rfl (fun _ _ _ h => h) (Or.inl ⟨by rfl, ?_⟩) (by assumption) ?_
            rotate_left
            · (intro w hSw; (try dsimp only at hSw); go_simp); with_reducible rfl
            simp only [List.set_cons_zero, List.set_cons_succ]
            refine take1 (i := 1) (d := 71) (v := ?_) rfl (by kernel_rfl) (by kernel_rfl) (by kernel_rfl) rfl (fun _ _ _ h => h) (Or.inl ⟨by rfl, ?_⟩) (by assumption) ?_
            rotate_left
            · (intro w hSw; (try dsimp only at hSw); go_simp); with_reducible rfl
            simp only [List.set_cons_zero, List.set_cons_succ]
            refine take1 (i := 2) (d := 72) (v := ?_) rfl (by kernel_rfl) (by kernel_rfl) (by kernel_rfl) rfl (fun _ _ _ h => h) (Or.inl ⟨by rfl, ?_⟩) (by assumption) ?_
            rotate_left
            · (intro w hSw; (try dsimp only at hSw); go_simp); with_reducible rfl
            simp only [List.set_cons_zero, List.set_cons_succ]
            refine take1 (i := 3) (d := 73) (v := ?_) rfl (by kernel_rfl) (by kernel_rfl) (by kernel_rfl) rfl (fun _ _ _ h => h) (Or.inl ⟨by rfl, ?_⟩) (by assumption) ?_
            rotate_left
            · (intro w hSw; (try dsimp only at hSw); go_simp); with_reducible rfl
            simp only [List.set_cons_zero, List.set_cons_succ]
            refine take1 (i := 4) (d := 74) (v := ?_) rfl (by kernel_rfl) (by kernel_rfl) (by kernel_rfl) rfl (fun _ _ _ h => h) (Or.inl ⟨by rfl, ?_⟩) (by assumption) ?_
            rotate_left
            · (intro w hSw; (try dsimp only at hSw); go_simp); with_reducible rfl
            simp only [List.set_cons_zero, List.set_cons_succ]
            refine take1 (i := 5) (d := 75) (v := ?_) rfl (by kernel_rfl) (by kernel_rfl) (by kernel_rfl) rfl (fun _ _ _ h => h) (Or.inl ⟨by rfl, ?_⟩) (by assumption) ?_
            rotate_left
            · (intro w hSw; (try dsimp only at hSw); go_simp); with_reducible rfl
            simp only [List.set_cons_zero, List.set_cons_succ]
            refine take1 (i := 6) (d := 76) (v := undef) rfl (by kernel_rfl) (by kernel_rfl) (by kernel_rfl) rfl (fun _ _ _ h => h) (Or.inr ⟨by rfl, rfl⟩) (by assumption) ?_
            simp only [List.set_cons_zero, List.set_cons_succ]
            refine take1 (i := 7) (d := 77) (v := undef) rfl (by kernel_rfl) (by kernel_rfl) (by kernel_rfl) rfl (fun _ _ _ h => h) (Or.inr ⟨by rfl, rfl⟩) (by assumption) ?_
            simp only [List.set_cons_zero, List.set_cons_succ]
            refine take1 (i := 8) (d := 78) (v := undef) rfl (by kernel_rfl) (by kernel_rfl) (by kernel_rfl) rfl (fun _ _ _ h => h) (Or.inr ⟨by rfl, rfl⟩) (by assumption) ?_
            simp only [List.set_cons_zero, List.set_cons_succ]
            refine take1 (i := 9) (d := 79) (v := undef) rfl (by kernel_rfl) (by kernel_rfl) (by kernel_rfl) rfl (fun _ _ _ h => h) (Or.inr ⟨by rfl, rfl⟩) (by assumption) ?_
            simp only [List.set_cons_zero, List.set_cons_succ]
            refine take1 (i := 10) (d := 80) (v := undef) rfl (by kernel_rfl) (by kernel_rfl) (by kernel_rfl) rfl (fun _ _ _ h => h) (Or.inr ⟨by rfl, rfl⟩) (by assumption) ?_
            simp only [List.set_cons_zero, List.set_cons_succ]
            refine take1 (i := 11) (d := 81) (v := undef) rfl (by kernel_rfl) (by kernel_rfl) (by kernel_rfl) rfl (fun _ _ _ h => h) (Or.inr ⟨by rfl, rfl⟩) (by assumption) ?_
            simp only [List.set_cons_zero, List.set_cons_succ]
            refine take1 (i := 12) (d := 82) (v := undef) rfl (by kernel_rfl) (by kernel_rfl) (by kernel_rfl) rfl (fun _ _ _ h => h) (Or.inr ⟨by rfl, rfl⟩) (by assumption) ?_
            simp only [List.set_cons_zero, List.set_cons_succ]
            refine take1 (i := 13) (d := 83) (v := undef) rfl (by kernel_rfl) (by kernel_rfl) (by kernel_rfl) rfl (fun _ _ _ h => h) (Or.inr ⟨by rfl, rfl⟩) (by assumption) ?_
            simp only [List.set_cons_zero, List.set_cons_succ]
            refine take1 (i := 14) (d := 84) (v := undef) rfl (by kernel_rfl) (by kernel_rfl) (by kernel_rfl) rfl (fun _ _ _ h => h) (Or.inr ⟨by rfl, rfl⟩) (by assumption) ?_
            simp only [List.set_cons_zero, List.set_cons_succ]
            refine take1 (i := 15) (d := 85) (v := undef) rfl (by kernel_rfl) (by kernel_rfl) (by kernel_rfl) rfl (fun _ _ _ h => h) (Or.inr ⟨by rfl, rfl⟩) (by assumption) ?_
            simp only [List.set_cons_zero, List.set_cons_succ]
            refine take1 (i := 16) (d := 86) (v := undef) rfl (by kernel_rfl) (by kernel_rfl) (by kernel_rfl) rfl (fun _ _ _ h => h) (Or.inr ⟨by rfl, rfl⟩) (by assumption) ?_
            simp only [List.set_cons_zero, List.set_cons_succ]
            refine take1 (i := 17) (d := 87) (v := undef) rfl (by kernel_rfl) (by kernel_rfl) (by kernel_rfl) rfl (fun _ _ _ h => h) (Or.inr ⟨by rfl, rfl⟩) (by assumption) ?_
            simp only [List.set_cons_zero, List.set_cons_succ]
            refine take1 (i := 18) (d := 88) (v := undef) rfl (by kernel_rfl) (by kernel_rfl) (by kernel_rfl) rfl (fun _ _ _ h => h) (Or.inr ⟨by rfl, rfl⟩) (by assumption) ?_
            simp only [List.set_cons_zero, List.set_cons_succ]
            refine take1 (i := 19) (d := 89) (v := undef) rfl (by kernel_rfl) (by kernel_rfl) (by kernel_rfl) rfl (fun _ _ _ h => h) (Or.inr ⟨by rfl, rfl⟩) (by assumption) ?_
            simp only [List.set_cons_zero, List.set_cons_succ]
            refine take1 (i := 20) (d := 90) (v := undef) rfl (by kernel_rfl) (by kernel_rfl) (by kernel_rfl) rfl (fun _ _ _ h => h) (Or.inr ⟨by rfl, rfl⟩) (by assumption) ?_
            simp only [List.set_cons_zero, List.set_cons_succ]
            refine take1 (i := 21) (d := 91) (v := undef) rfl (by kernel_rfl) (by kernel_rfl) (by kernel_rfl) rfl (fun _ _ _ h => h) (Or.inr ⟨by rfl, rfl⟩) (by assumption) ?_
            simp only [List.set_cons_zero, List.set_cons_succ]
            refine take1 (i := 22) (d := 92) (v := undef) rfl (by kernel_rfl) (by kernel_rfl) (by kernel_rfl) rfl (fun _ _ _ h => h) (Or.inr ⟨by rfl, rfl⟩) (by assumption) ?_
            simp only [List.set_cons_zero, List.set_cons_succ]
            refine take1 (i := 23) (d := 93) (v := undef) rfl (by kernel_rfl) (by kernel_rfl) (by kernel_rfl) rfl (fun _ _ _ h => h) (Or.inr ⟨by rfl, rfl⟩) (by assumption) ?_
            simp only [List.set_cons_zero, List.set_cons_succ]
            refine take1 (i := 24) (d := 94) (v := ?_) rfl (by kernel_rfl) (by kernel_rfl) (by kernel_rfl) rfl (fun _ _ _ h => h) (Or.inl ⟨by rfl, ?_⟩) (by assumption) ?_
            rotate_left
            · (intro w hSw; (try dsimp only at hSw); go_simp); with_reducible rfl
            simp only [List.set_cons_zero, List.set_cons_succ]
            refine take1 (i := 25) (d := 95) (v := ?_) rfl (by kernel_rfl) (by kernel_rfl) (by kernel_rfl) rfl (fun _ _ _ h => h) (Or.inl ⟨by rfl, ?_⟩) (by assumption) ?_
            rotate_left
            · (intro w hSw; (try dsimp only at hSw); go_simp); with_reducible rfl
            simp only [List.set_cons_zero, List.set_cons_succ]
            refine take1 (i := 26) (d := 96) (v := ?_) rfl (by kernel_rfl) (by kernel_rfl) (by kernel_rfl) rfl (fun _ _ _ h => h) (Or.inl ⟨by rfl, ?_⟩) (by assumption) ?_
            rotate_left
            · (intro w hSw; (try dsimp only at hSw); go_simp); with_reducible rfl
            simp only [List.set_cons_zero, List.set_cons_succ]
            refine take1 (i := 27) (d := 97) (v := ?_) rfl (by kernel_rfl) (by kernel_rfl) (by kernel_rfl) rfl (fun _ _ _ h => h) (Or.inl ⟨by rfl, ?_⟩) (by assumption) ?_
            rotate_left
            · (intro w hSw; (try dsimp only at hSw); go_simp); with_reducible rfl
            simp only [List.set_cons_zero, List.set_cons_succ]
            refine take1 (i := 28) (d := 98) (v := ?_) rfl (by kernel_rfl) (by kernel_rfl) (by kernel_rfl) rfl (fun _ _ _ h => h) (Or.inl ⟨by rfl, ?_⟩) (by assumption) ?_
            rotate_left
            · (intro w hSw; (try dsimp only at hSw); go_simp); with_reducible rfl
            simp only [List.set_cons_zero, List.set_cons_succ]
            refine take1 (i := 29) (d := 99) (v := ?_) rfl (by kernel_rfl) (by kernel_rfl) (by kernel_rfl) rfl (fun _ _ _ h => h) (Or.inl ⟨by rfl, ?_⟩) (by assumption) ?_
            rotate_left
            · (intro w hSw; (try dsimp only at hSw); go_simp); with_reducible rfl
            simp only [List.set_cons_zero, List.set_cons_succ]
            refine take1 (i := 30) (d := 100) (v := ?_) rfl (by kernel_rfl) (by kernel_rfl) (by kernel_rfl) rfl (fun _ _ _ h => h) (Or.inl ⟨by rfl, ?_⟩) (by assumption) ?_
            rotate_left
            · (intro w hSw; (try dsimp only at hSw); go_simp); with_reducible rfl
            simp only [List.set_cons_zero, List.set_cons_succ]
            refine take1 (i := 31) (d := 101) (v := ?_) rfl (by kernel_rfl) (by kernel_rfl) (by kernel_rfl) rfl (fun _ _ _ h => h) (Or.inl ⟨by rfl, ?_⟩) (by assumption) ?_
            rotate_left
            · (intro w hSw; (try dsimp only at hSw); go_simp); with_reducible rfl
            simp only [List.set_cons_zero, List.set_cons_succ]
            refine take1 (i := 32) (d := 102) (v := ?_) rfl (by kernel_rfl) (by kernel_rfl) (by kernel_rfl) rfl (fun _ _ _ h => h) (Or.inl ⟨by rfl, ?_⟩) (by assumption) ?_
            rotate_left
            · (intro w hSw; (try dsimp only at hSw); go_simp); with_reducible rfl
            simp only [List.set_cons_zero, List.set_cons_succ]
            refine take1 (i := 33) (d := 103) (v := ?_) rfl (by kernel_rfl) (by kernel_rfl) (by kernel_rfl) rfl (fun _ _ _ h => h) (Or.inl ⟨by rfl, ?_⟩) (by assumption) ?_
            rotate_left
            · (intro w hSw; (try dsimp only at hSw); go_simp); with_reducible rfl
            simp only [List.set_cons_zero, List.set_cons_succ]
            refine take1 (i := 35) (d := 105) (v := ?_) rfl (by kernel_rfl) (by kernel_rfl) (by kernel_rfl) rfl (fun _ _ _ h => h) (Or.inl ⟨by rfl, ?_⟩) (by assumption) ?_
            rotate_left
            · (intro w hSw; (try dsimp only at hSw); go_simp); with_reducible rfl
            simp only [List.set_cons_zero, List.set_cons_succ]
            refine take1 (i := 36) (d := 106) (v := ?_) rfl (by kernel_rfl) (by kernel_rfl) (by kernel_rfl) rfl (fun _ _ _ h => h) (Or.inl ⟨by rfl, ?_⟩) (by assumption) ?_
            rotate_left
            · (intro w hSw; (try dsimp only at hSw); go_simp); with_reducible rfl
            simp only [List.set_cons_zero, List.set_cons_succ]
            refine take1 (i := 37) (d := 107) (v := ?_) rfl (by kernel_rfl) (by kernel_rfl) (by kernel_rfl) rfl (fun _ _ _ h => h) (Or.inl ⟨by rfl, ?_⟩) (by assumption) ?_
            rotate_left
            · (intro w hSw; (try dsimp only at hSw); go_simp); with_reducible rfl
            simp only [List.set_cons_zero, List.set_cons_succ]
            refine take1 (i := 38) (d := 108) (v := ?_) rfl (by kernel_rfl) (by kernel_rfl) (by kernel_rfl) rfl (fun _ _ _ h => h) (Or.inl ⟨by rfl, ?_⟩) (by assumption) ?_
            rotate_left
            · (intro w hSw; (try dsimp only at hSw); go_simp); with_reducible rfl
            simp only [List.set_cons_zero, List.set_cons_succ]
            refine take1 (i := 39) (d := 109) (v := ?_) rfl (by kernel_rfl) (by kernel_rfl) (by kernel_rfl) rfl (fun _ _ _ h => h) (Or.inl ⟨by rfl, ?_⟩) (by assumption) ?_
            rotate_left
            · (intro w hSw; (try dsimp only at hSw); go_simp); with_reducible rfl
            simp only [List.set_cons_zero, List.set_cons_succ]
            refine wpAnyH_ready (rs := [34]) (by kernel_rfl) (by simp) (AllReadyH.cons rfl (fun Kreg hKreg => ?_) AllReadyH.nil)
            go_simp
            (go_at_call 30; refine (H1.out _ kg.i2).mono ?_; rintro e w3 ⟨rfl, g3⟩; have kg := kg.swap.rd g3 (by simp; omega) (Nat.le_refl _); clear g3)
            go_wp2_with fail
            refine hKreg.out _ _ (HS.out _ _ kg) (fun hHeld => ?_)
            clear hKreg Kreg
            try simp only [Act.put, List.setIfInBounds_toArray, List.set_cons_zero, List.set_cons_succ]
            refine take1 (i := 40) (d := 110) (v := ?_) rfl (by kernel_rfl) (by kernel_rfl) (by kernel_rfl) rfl (fun _ _ _ h => h) (Or.inl ⟨by rfl, ?_⟩) (by assumption) ?_
            rotate_left
            · (intro w hSw; (try dsimp only at hSw); go_simp); with_reducible rfl
            simp only [List.set_cons_zero, List.set_cons_succ]
            refine take1 (i := 41) (d := 111) (v := ?_) rfl (by kernel_rfl) (by kernel_rfl) (by kernel_rfl) rfl (fun _ _ _ h => h) (Or.inl ⟨by rfl, ?_⟩) (by assumption) ?_
            rotate_left
            · (intro w hSw; (try dsimp only at hSw); go_simp); with_reducible rfl
            simp only [List.set_cons_zero, List.set_cons_succ]
            refine take1 (i := 42) (d := 112) (v := ?_) rfl (by kernel_rfl) (by kernel_rfl) (by kernel_rfl) rfl (fun _ _ _ h => h) (Or.inl ⟨by rfl, ?_⟩) (by assumption) ?_
            rotate_left
            · (intro w hSw; (try dsimp only at hSw); go_simp); with_reducible rfl
            simp only [List.set_cons_zero, List.set_cons_succ]
            refine take1 (i := 44) (d := 114) (v := ?_) rfl (by kernel_rfl) (by kernel_rfl) (by kernel_rfl) rfl (fun _ _ _ h => h) (Or.inl ⟨by rfl, ?_⟩) (by assumption) ?_
            rotate_left
            · (intro w hSw; (try dsimp only at hSw); go_simp); with_reducible rfl
            simp only [List.set_cons_zero, List.set_cons_succ]
            refine take1 (i := 45) (d := 115) (v := ?_) rfl (by kernel_rfl) (by kernel_rfl) (by kernel_rfl) rfl (fun _ _ _ h => h) (Or.inl ⟨by rfl, ?_⟩) (by assumption) ?_
            rotate_left
            · (intro w hSw; (try dsimp only at hSw); go_simp); with_reducible rfl
            simp only [List.set_cons_zero, List.set_cons_succ]
            refine take1 (i := 46) (d := 116) (v := ?_) rfl (by kernel_rfl) (by kernel_rfl) (by kernel_rfl) rfl (fun _ _ _ h => h) (Or.inl ⟨by rfl, ?_⟩) (by assumption) ?_
            rotate_left
            · (intro w hSw; (try dsimp only at hSw); go_simp); with_reducible rfl
            simp only [List.set_cons_zero, List.set_cons_succ]
            refine take1 (i := 47) (d := 117) (v := ?_) rfl (by kernel_rfl) (by kernel_rfl) (by kernel_rfl) rfl (fun _ _ _ h => h) (Or.inl ⟨by rfl, ?_⟩) (by assumption) ?_
            rotate_left
            · (intro w hSw; (try dsimp only at hSw); go_simp); with_reducible rfl
            simp only [List.set_cons_zero, List.set_cons_succ]
            refine take1 (i := 48) (d := 118) (v := ?_) rfl (by kernel_rfl) (by kernel_rfl) (by kernel_rfl) rfl (fun _ _ _ h => h) (Or.inl ⟨by rfl, ?_⟩) (by assumption) ?_
            rotate_left
            · (intro w hSw; (try dsimp only at hSw); go_simp); with_reducible rfl
            simp only [List.set_cons_zero, List.set_cons_succ]
            refine wpAnyH_ready (rs := [43]) (by kernel_rfl) (by simp) (AllReadyH.cons rfl (fun Kreg hKreg => ?_) AllReadyH.nil)
            go_simp
            (go_at_call 30; refine (H2.out _ kg.i2).mono ?_; rintro e w3 ⟨rfl, g3⟩; have kg := kg.swap.rd g3 (by simp; omega) (by omega); clear g3)
            go_wp2_with fail
            refine hKreg.out _ _ (HS.out _ _ kg) (fun hHeld => ?_)
            clear hKreg Kreg
            try simp only [Act.put, List.setIfInBounds_toArray, List.set_cons_zero, List.set_cons_succ]
            refine take1 (i := 49) (d := 119) (v := ?_) rfl (by kernel_rfl) (by kernel_rfl) (by kernel_rfl) rfl (fun _ _ _ h => h) (Or.inl ⟨by rfl, ?_⟩) (by assumption) ?_
            rotate_left
            · (intro w hSw; (try dsimp only at hSw); go_simp); with_reducible rfl
            simp only [List.set_cons_zero, List.set_cons_succ]
            refine take1 (i := 50) (d := 120) (v := ?_) rfl (by kernel_rfl) (by kernel_rfl) (by kernel_rfl) rfl (fun _ _ _ h => h) (Or.inl ⟨by rfl, ?_⟩) (by assumption) ?_
            rotate_left
            · (intro w hSw; (try dsimp only at hSw); go_simp); with_reducible rfl
            simp only [List.set_cons_zero, List.set_cons_succ]
            refine take1 (i := 51) (d := 121) (v := ?_) rfl (by kernel_rfl) (by kernel_rfl) (by kernel_rfl) rfl (fun _ _ _ h => h) (Or.inl ⟨by rfl, ?_⟩) (by assumption) ?_
            rotate_left
            · (intro w hSw; (try dsimp only at hSw); go_simp); with_reducible rfl
            simp only [List.set_cons_zero, List.set_cons_succ]
            refine take1 (i := 52) (d := 122) (v := ?_) rfl (by kernel_rfl) (by kernel_rfl) (by kernel_rfl) rfl (fun _ _ _ h => h) (Or.inl ⟨by rfl, ?_⟩) (by assumption) ?_
            rotate_left
            · (intro w hSw; (try dsimp only at hSw); go_simp); with_reducible rfl
            simp only [List.set_cons_zero, List.set_cons_succ]
            refine wpAnyH_done (by kernel_rfl) ?_ _
            go_wp2_with fail
            go_roundg (l.length - (k + 1))
            case measure => omega
            case rel => exact ⟨k + 1, by omega, by go_num, kg⟩
          · simp only [if_true] at hdr
            have e1 : Rd.str ⟨0, itsB (l.drop k)⟩ 100 = (xs, ⟨0, itsB (l.drop (k + 1))⟩) := by rw [hdr]; exact str_put_back xs f2 _
            have e2 : Rd.str ⟨0, itsB (l.drop k) ++ [UInt8.ofNat c]⟩ 100 = (xs, ⟨0, itsB (l.drop (k + 1)) ++ [UInt8.ofNat c]⟩) := by rw [hdr, List.append_assoc]; exact str_put_back xs f2 _
            have h1 := fun W hW => str_eq (g := wo.heap.size) e1 (by decide) (by decide) (by show (itsB (l.drop k)).length < _; omega) W hW
            have h2 := fun W hW => str_eq (g := w1.heap.size + 1) e2 (by decide) (by decide) (by show (itsB (l.drop k) ++ [UInt8.ofNat c]).length < _; rw [List.length_append, List.length_singleton]; omega) W hW
            unfold StrRet at h1 h2
            have H1 := Lib.hid h1
            have H2 := Lib.hid h2
            clear h1 h2 e1 e2 hdr
            go_wp2_with fail
            have kg := kg.drew
            refine wp_region_held_drew (S := (fun W : World => W.cell? (ad.add (k * 3)) = some (.bool true) ∧ W.cell? { block := (ad.add (k * 3)).block, off := (ad.add (k * 3)).off + 1 } = some (.int .u64 (xn : Int)) ∧ W.cell? { block := (ad.add (k * 3)).block, off := (ad.add (k * 3)).off + 2 } = some (.string ⟨xs.toArray⟩))) (by kernel_rfl) (HS.out _ _ kg) (fun hHeld => ?_)
            refine take1 (i := 0) (d := 70) (v := ?_) rfl (by kernel_rfl) (by kernel_rfl) (by kernel_rfl) rfl (fun _ _ _ h => h) (Or.inl ⟨by rfl, ?_⟩) (by assumption) ?_
            rotate_left
            · (intro w hSw; (try dsimp only at hSw); go_simp); with_reducible rfl
            simp only [List.set_cons_zero, List.set_cons_succ]
            refine take1 (i := 1) (d := 71) (v := ?_) rfl (by kernel_rfl) (by kernel_rfl) (by kernel_rfl) rfl (fun _ _ _ h => h) (Or.inl ⟨by rfl, ?_⟩) (by assumption) ?_
            rotate_left
            · (intro w hSw; (try dsimp only at hSw); go_simp); with_reducible rfl
            simp only [List.set_cons_zero, List.set_cons_succ]
            refine take1 (i := 2) (d := 72) (v := ?_) rfl (by kernel_rfl) (by kernel_rfl) (by kernel_rfl) rfl (fun _ _ _ h => h) (Or.inl ⟨by rfl, ?_⟩) (by assumption) ?_
            rotate_left
            · (intro w hSw; (try dsimp only at hSw); go_simp); with_reducible rfl
            simp only [List.set_cons_zero, List.set_cons_succ]
            refine take1 (i := 3) (d := 73) (v := ?_) rfl (by kernel_rfl) (by kernel_rfl) (by kernel_rfl) rfl (fun _ _ _ h => h) (Or.inl ⟨by rfl, ?_⟩) (by assumption) ?_
            rotate_left
            · (intro w hSw; (try dsimp only at hSw); go_simp); with_reducible rfl
            simp only [List.set_cons_zero, List.set_cons_succ]
            refine take1 (i := 4) (d := 74) (v := ?_) rfl (by kernel_rfl) (by kernel_rfl) (by kernel_rfl) rfl (fun _ _ _ h => h) (Or.inl ⟨by rfl, ?_⟩) (by assumption) ?_
            rotate_left
            · (intro w hSw; (try dsimp only at hSw); go_simp); with_reducible rfl
            simp only [List.set_cons_zero, List.set_cons_succ]
            refine take1 (i := 5) (d := 75) (v := ?_) rfl (by kernel_rfl) (by kernel_rfl) (by kernel_rfl) rfl (fun _ _ _ h => h) (Or.inl ⟨by rfl, ?_⟩) (by assumption) ?_
            rotate_left
            · (intro w hSw; (try dsimp only at hSw); go_simp); with_reducible rfl
            simp only [List.set_cons_zero, List.set_cons_succ]
            refine take1 (i := 6) (d := 76) (v := ?_) rfl (by kernel_rfl) (by kernel_rfl) (by kernel_rfl) rfl (fun _ _ _ h => h) (Or.inl ⟨by rfl, ?_⟩) (by assumption) ?_
            rotate_left
            · (intro w hSw; (try dsimp only at hSw); go_simp); with_reducible rfl
            simp only [List.set_cons_zero, List.set_cons_succ]
            refine take1 (i := 8) (d := 78) (v := ?_) rfl (by kernel_rfl) (by kernel_rfl) (by kernel_rfl) rfl (fun _ _ _ h => h) (Or.inl ⟨by rfl, ?_⟩) (by assumption) ?_
            rotate_left
            · (intro w hSw; (try dsimp only at hSw); go_simp); with_reducible rfl
            simp only [List.set_cons_zero, List.set_cons_succ]
            refine take1 (i := 9) (d := 79) (v := ?_) rfl (by kernel_rfl) (by kernel_rfl) (by kernel_rfl) rfl (fun _ _ _ h => h) (Or.inl ⟨by rfl, ?_⟩) (by assumption) ?_
            rotate_left
            · (intro w hSw; (try dsimp only at hSw); go_simp); with_reducible rfl
            simp only [List.set_cons_zero, List.set_cons_succ]
            refine take1 (i := 10) (d := 80) (v := ?_) rfl (by kernel_rfl) (by kernel_rfl) (by kernel_rfl) rfl (fun _ _ _ h => h) (Or.inl ⟨by rfl, ?_⟩) (by assumption) ?_
            rotate_left
            · (intro w hSw; (try dsimp only at hSw); go_simp); with_reducible rfl
            simp only [List.set_cons_zero, List.set_cons_succ]
            refine take1 (i := 11) (d := 81) (v := ?_) rfl (by kernel_rfl) (by kernel_rfl) (by kernel_rfl) rfl (fun _ _ _ h => h) (Or.inl ⟨by rfl, ?_⟩) (by assumption) ?_
            rotate_left
            · (intro w hSw; (try dsimp only at hSw); go_simp); with_reducible rfl
            simp only [List.set_cons_zero, List.set_cons_succ]
            refine take1 (i := 12) (d := 82) (v := ?_) rfl (by kernel_rfl) (by kernel_rfl) (by kernel_rfl) rfl (fun _ _ _ h => h) (Or.inl ⟨by rfl, ?_⟩) (by assumption) ?_
            rotate_left
            · (intro w hSw; (try dsimp only at hSw); go_simp); with_reducible rfl
            simp only [List.set_cons_zero, List.set_cons_succ]
            refine wpAnyH_ready (rs := [7]) (by kernel_rfl) (by simp) (AllReadyH.cons rfl (fun Kreg hKreg => ?_) AllReadyH.nil)
            go_simp
            (go_at_call 34; refine (H1.out _ kg.i2).mono ?_; rintro e w3 ⟨rfl, g3⟩; have kg := kg.swap.rd g3 (by simp; omega) (Nat.le_refl _); clear g3)
            go_wp2_with fail
            refine hKreg.out _ _ (HS.out _ _ kg) (fun hHeld => ?_)
            clear hKreg Kreg
            try simp only [Act.put, List.setIfInBounds_toArray, List.set_cons_zero, List.set_cons_succ]
            refine take1 (i := 13) (d := 83) (v := ?_) rfl (by kernel_rfl) (by kernel_rfl) (by kernel_rfl) rfl (fun _ _ _ h => h) (Or.inl ⟨by rfl, ?_⟩) (by assumption) ?_
            rotate_left
            · (intro w hSw; (try dsimp only at hSw); go_simp); with_reducible rfl
            simp only [List.set_cons_zero, List.set_cons_succ]
            refine take1 (i := 14) (d := 84) (v := ?_) rfl (by kernel_rfl) (by kernel_rfl) (by kernel_rfl) rfl (fun _ _ _ h => h) (Or.inl ⟨by rfl, ?_⟩) (by assumption) ?_
            rotate_left
            · (intro w hSw; (try dsimp only at hSw); go_simp); with_reducible rfl
            simp only [List.set_cons_zero, List.set_cons_succ]
            refine take1 (i := 15) (d := 85) (v := ?_) rfl (by kernel_rfl) (by kernel_rfl) (by kernel_rfl) rfl (fun _ _ _ h => h) (Or.inl ⟨by rfl, ?_⟩) (by assumption) ?_
            rotate_left
            · (intro w hSw; (try dsimp only at hSw); go_simp); with_reducible rfl
            simp only [List.set_cons_zero, List.set_cons_succ]
            refine take1 (i := 17) (d := 87) (v := ?_) rfl (by kernel_rfl) (by kernel_rfl) (by kernel_rfl) rfl (fun _ _ _ h => h) (Or.inl ⟨by rfl, ?_⟩) (by assumption) ?_
            rotate_left
            · (intro w hSw; (try dsimp only at hSw); go_simp); with_reducible rfl
            simp only [List.set_cons_zero, List.set_cons_succ]
            refine take1 (i := 18) (d := 88) (v := ?_) rfl (by kernel_rfl) (by kernel_rfl) (by kernel_rfl) rfl (fun _ _ _ h => h) (Or.inl ⟨by rfl, ?_⟩) (by assumption) ?_
            rotate_left
            · (intro w hSw; (try dsimp only at hSw); go_simp); with_reducible rfl
            simp only [List.set_cons_zero, List.set_cons_succ]
            refine take1 (i := 19) (d := 89) (v := ?_) rfl (by kernel_rfl) (by kernel_rfl) (by kernel_rfl) rfl (fun _ _ _ h => h) (Or.inl ⟨by rfl, ?_⟩) (by assumption) ?_
            rotate_left
            · (intro w hSw; (try dsimp only at hSw); go_simp); with_reducible rfl
            simp only [List.set_cons_zero, List.set_cons_succ]
            refine take1 (i := 20) (d := 90) (v := ?_) rfl (by kernel_rfl) (by kernel_rfl) (by kernel_rfl) rfl (fun _ _ _ h => h) (Or.inl ⟨by rfl, ?_⟩) (by assumption) ?_
            rotate_left
            · (intro w hSw; (try dsimp only at hSw); go_simp); with_reducible rfl
            simp only [List.set_cons_zero, List.set_cons_succ]
            refine take1 (i := 21) (d := 91) (v := ?_) rfl (by kernel_rfl) (by kernel_rfl) (by kernel_rfl) rfl (fun _ _ _ h => h) (Or.inl ⟨by rfl, ?_⟩) (by assumption) ?_
            rotate_left
            · (intro w hSw; (try dsimp only at hSw); go_simp); with_reducible rfl
            simp only [List.set_cons_zero, List.set_cons_succ]
            refine wpAnyH_ready (rs := [16]) (by kernel_rfl) (by simp) (AllReadyH.cons rfl (fun Kreg hKreg => ?_) AllReadyH.nil)
            go_simp
            (go_at_call 34; refine (H2.out _ kg.i2).mono ?_; rintro e w3 ⟨rfl, g3⟩; have kg := kg.swap.rd g3 (by simp; omega) (by omega); clear g3)
            go_wp2_with fail
            refine hKreg.out _ _ (HS.out _ _ kg) (fun hHeld => ?_)
            clear hKreg Kreg
            try simp only [Act.put, List.setIfInBounds_toArray, List.set_cons_zero, List.set_cons_succ]
            refine take1 (i := 22) (d := 92) (v := ?_) rfl (by kernel_rfl) (by kernel_rfl) (by kernel_rfl) rfl (fun _ _ _ h => h) (Or.inl ⟨by rfl, ?_⟩) (by assumption) ?_
            rotate_left
            · (intro w hSw; (try dsimp only at hSw); go_simp); with_reducible rfl
            simp only [List.set_cons_zero, List.set_cons_succ]
            refine take1 (i := 23) (d := 93) (v := ?_) rfl (by kernel_rfl) (by kernel_rfl) (by kernel_rfl) rfl (fun _ _ _ h => h) (Or.inl ⟨by rfl, ?_⟩) (by assumption) ?_
            rotate_left
            · (intro w hSw; (try dsimp only at hSw); go_simp); with_reducible rfl
            simp only [List.set_cons_zero, List.set_cons_succ]
            refine take1 (i := 24) (d := 94) (v := ?_) rfl (by kernel_rfl) (by kernel_rfl) (by kernel_rfl) rfl (fun _ _ _ h => h) (Or.inl ⟨by rfl, ?_⟩) (by assumption) ?_
            rotate_left
            · (intro w hSw; (try dsimp only at hSw); go_simp); with_reducible rfl
            simp only [List.set_cons_zero, List.set_cons_succ]
            refine take1 (i := 25) (d := 95) (v := ?_) rfl (by kernel_rfl) (by kernel_rfl) (by kernel_rfl) rfl (fun _ _ _ h => h) (Or.inl ⟨by rfl, ?_⟩) (by assumption) ?_
            rotate_left
            · (intro w hSw; (try dsimp only at hSw); go_simp); with_reducible rfl
            simp only [List.set_cons_zero, List.set_cons_succ]
            refine take1 (i := 26) (d := 96) (v := ?_) rfl (by kernel_rfl) (by kernel_rfl) (by kernel_rfl) rfl (fun _ _ _ h => h) (Or.inl ⟨by rfl, ?_⟩) (by assumption) ?_
            rotate_left
            · (intro w hSw; (try dsimp only at hSw); go_simp); with_reducible rfl
            simp only [List.set_cons_zero, List.set_cons_succ]
            refine take1 (i := 27) (d := 97) (v := ?_) rfl (by kernel_rfl) (by kernel_rfl) (by kernel_rfl) rfl (fun _ _ _ h => h) (Or.inl ⟨by rfl, ?_⟩) (by assumption) ?_
            rotate_left
            · (intro w hSw; (try dsimp only at hSw); go_simp); with_reducible rfl
            simp only [List.set_cons_zero, List.set_cons_succ]
            refine take1 (i := 28) (d := 98) (v := ?_) rfl (by kernel_rfl) (by kernel_rfl) (by kernel_rfl) rfl (fun _ _ _ h => h) (Or.inl ⟨by rfl, ?_⟩) (by assumption) ?_
            rotate_left
            · (intro w hSw; (try dsimp only at hSw); go_simp); with_reducible rfl
            simp only [List.set_cons_zero, List.set_cons_succ]
            refine take1 (i := 29) (d := 99) (v := ?_) rfl (by kernel_rfl) (by kernel_rfl) (by kernel_rfl) rfl (fun _ _ _ h => h) (Or.inl ⟨by rfl, ?_⟩) (by assumption) ?_
            rotate_left
            · (intro w hSw; (try dsimp only at hSw); go_simp); with_reducible rfl
            simp only [List.set_cons_zero, List.set_cons_succ]
            refine take1 (i := 30) (d := 100) (v := ?_) rfl (by kernel_rfl) (by kernel_rfl) (by kernel_rfl) rfl (fun _ _ _ h => h) (Or.inl ⟨by rfl, ?_⟩) (by assumption) ?_
            rotate_left
            · (intro w hSw; (try dsimp only at hSw); go_simp); with_reducible rfl
            simp only [List.set_cons_zero, List.set_cons_succ]
            refine take1 (i := 31) (d := 101) (v := ?_) rfl (by kernel_rfl) (by kernel_rfl) (by kernel_rfl) rfl (fun _ _ _ h => h) (Or.inl ⟨by rfl, ?_⟩) (by assumption) ?_
            rotate_left
            · (intro w hSw; (try dsimp only at hSw); go_simp); with_reducible rfl
            simp only [List.set_cons_zero, List.set_cons_succ]
            refine take1 (i := 32) (d := 102) (v := ?_) rfl (by kernel_rfl) (by kernel_rfl) (by kernel_rfl) rfl (fun _ _ _ h => h) (Or.inl ⟨by rfl, ?_⟩) (by assumption) ?_
            rotate_left
            · (intro w hSw; (try dsimp only at hSw); go_simp); with_reducible rfl
            simp only [List.set_cons_zero, List.set_cons_succ]
            refine take1 (i := 33) (d := 103) (v := undef) rfl (by kernel_rfl) (by kernel_rfl) (by kernel_rfl) rfl (fun _ _ _ h => h) (Or.inr ⟨by rfl, rfl⟩) (by assumption) ?_
            simp only [List.set_cons_zero, List.set_cons_succ]
            refine take1 (i := 34) (d := 104) (v := undef) rfl (by kernel_rfl) (by kernel_rfl) (by kernel_rfl) rfl (fun _ _ _ h => h) (Or.inr ⟨by rfl, rfl⟩) (by assumption) ?_
            simp only [List.set_cons_zero, List.set_cons_succ]
            refine take1 (i := 35) (d := 105) (v := undef) rfl (by kernel_rfl) (by kernel_rfl) (by kernel_rfl) rfl (fun _ _ _ h => h) (Or.inr ⟨by rfl, rfl⟩) (by assumption) ?_
            simp only [List.set_cons_zero, List.set_cons_succ]
            refine take1 (i := 36) (d := 106) (v := undef) rfl (by kernel_rfl) (by kernel_rfl) (by kernel_rfl) rfl (fun _ _ _ h => h) (Or.inr ⟨by rfl, rfl⟩) (by assumption) ?_
            simp only [List.set_cons_zero, List.set_cons_succ]
            refine take1 (i := 37) (d := 107) (v := undef) rfl (by kernel_rfl) (by kernel_rfl) (by kernel_rfl) rfl (fun _ _ _ h => h) (Or.inr ⟨by rfl, rfl⟩) (by assumption) ?_
            simp only [List.set_cons_zero, List.set_cons_succ]
            refine take1 (i := 38) (d := 108) (v := undef) rfl (by kernel_rfl) (by kernel_rfl) (by kernel_rfl) rfl (fun _ _ _ h => h) (Or.inr ⟨by rfl, rfl⟩) (by assumption) ?_
            simp only [List.set_cons_zero, List.set_cons_succ]
            refine take1 (i := 39) (d := 109) (v := undef) rfl (by kernel_rfl) (by kernel_rfl) (by kernel_rfl) rfl (fun _ _ _ h => h) (Or.inr ⟨by rfl, rfl⟩) (by assumption) ?_
            simp only [List.set_cons_zero, List.set_cons_succ]
            refine take1 (i := 40) (d := 110) (v := undef) rfl (by kernel_rfl) (by kernel_rfl) (by kernel_rfl) rfl (fun _ _ _ h => h) (Or.inr ⟨by rfl, rfl⟩) (by assumption) ?_
            simp only [List.set_cons_zero, List.set_cons_succ]
            refine take1 (i := 41) (d := 111) (v := undef) rfl (by kernel_rfl) (by kernel_rfl) (by kernel_rfl) rfl (fun _ _ _ h => h) (Or.inr ⟨by rfl, rfl⟩) (by assumption) ?_
            simp only [List.set_cons_zero, List.set_cons_succ]
            refine take1 (i := 42) (d := 112) (v := undef) rfl (by kernel_rfl) (by kernel_rfl) (by kernel_rfl) rfl (fun _ _ _ h => h) (Or.inr ⟨by rfl, rfl⟩) (by assumption) ?_
            simp only [List.set_cons_zero, List.set_cons_succ]
            refine take1 (i := 43) (d := 113) (v := undef) rfl (by kernel_rfl) (by kernel_rfl) (by kernel_rfl) rfl (fun _ _ _ h => h) (Or.inr ⟨by rfl, rfl⟩) (by assumption) ?_
            simp only [List.set_cons_zero, List.set_cons_succ]
            refine take1 (i := 44) (d := 114) (v := undef) rfl (by kernel_rfl) (by kernel_rfl) (by kernel_rfl) rfl (fun _ _ _ h => h) (Or.inr ⟨by rfl, rfl⟩) (by assumption) ?_
            simp only [List.set_cons_zero, List.set_cons_succ]
            refine take1 (i := 45) (d := 115) (v := undef) rfl (by kernel_rfl) (by kernel_rfl) (by kernel_rfl) rfl (fun _ _ _ h => h) (Or.inr ⟨by rfl, rfl⟩) (by assumption) ?_
            simp only [List.set_cons_zero, List.set_cons_succ]
            refine take1 (i := 46) (d := 116) (v := undef) rfl (by kernel_rfl) (by kernel_rfl) (by kernel_rfl) rfl (fun _ _ _ h => h) (Or.inr ⟨by rfl, rfl⟩) (by assumption) ?_
            simp only [List.set_cons_zero, List.set_cons_succ]
            refine take1 (i := 47) (d := 117) (v := undef) rfl (by kernel_rfl) (by kernel_rfl) (by kernel_rfl) rfl (fun _ _ _ h => h) (Or.inr ⟨by rfl, rfl⟩) (by assumption) ?_
            simp only [List.set_cons_zero, List.set_cons_succ]
            refine take1 (i := 48) (d := 118) (v := undef) rfl (by kernel_rfl) (by kernel_rfl) (by kernel_rfl) rfl (fun _ _ _ h => h) (Or.inr ⟨by rfl, rfl⟩) (by assumption) ?_
            simp only [List.set_cons_zero, List.set_cons_succ]
            refine take1 (i := 49) (d := 119) (v := undef) rfl (by kernel_rfl) (by kernel_rfl) (by kernel_rfl) rfl (fun _ _ _ h => h) (Or.inr ⟨by rfl, rfl⟩) (by assumption) ?_
            simp only [List.set_cons_zero, List.set_cons_succ]
            refine take1 (i := 50) (d := 120) (v := undef) rfl (by kernel_rfl) (by kernel_rfl) (by kernel_rfl) rfl (fun _ _ _ h => h) (Or.inr ⟨by rfl, rfl⟩) (by assumption) ?_
            simp only [List.set_cons_zero, List.set_cons_succ]
            refine take1 (i := 51) (d := 121) (v := ?_) rfl (by kernel_rfl) (by kernel_rfl) (by kernel_rfl) rfl (fun _ _ _ h => h) (Or.inl ⟨by rfl, ?_⟩) (by assumption) ?_
            rotate_left
            · (intro w hSw; (try dsimp only at hSw); go_simp); with_reducible rfl
            simp only [List.set_cons_zero, List.set_cons_succ]
            refine take1 (i := 52) (d := 122) (v := ?_) rfl (by kernel_rfl) (by kernel_rfl) (by kernel_rfl) rfl (fun _ _ _ h => h) (Or.inl ⟨by rfl, ?_⟩) (by assumption) ?_
            rotate_left
            · (intro w hSw; (try dsimp only at hSw); go_simp); with_reducible rfl
            simp only [List.set_cons_zero, List.set_cons_succ]
            refine wpAnyH_done (by kernel_rfl) ?_ _
            go_wp2_with fail
            go_roundg (l.length - (k + 1))
            case measure => omega
            case rel => exact ⟨k + 1, by omega, by go_num, kg⟩
        · obtain rfl : k = l.length := by omega
          have e0 : itsB (l.drop l.length) = [] := by rw [List.drop_length]; rfl
          rw [e0, List.nil_append] at kg
          have hL7 : ∀ W, RdAt W wo.heap.size ⟨0, []⟩ → Calls Try.prog 35 #[.pointer (some ⟨wo.heap.size, 0, none⟩)] W fun e w' => e = .returned (.int .i64 0) ∧ W = w' := fun W hW => left_any wo.heap.size ⟨0, []⟩ W hW
          have hE7 : ∀ W, RdAt W wo.heap.size ⟨0, []⟩ → Calls Try.prog 31 #[.pointer (some ⟨wo.heap.size, 0, none⟩)] W fun e w' => e = .returned (.int .i64 0) ∧ RdGo W wo.heap.size ⟨0, []⟩ w' := fun W hW => end_any wo.heap.size ⟨0, []⟩ W hW
          have hR8 : ∀ W, RdAt W (w1.heap.size + 1) ⟨0, [UInt8.ofNat c]⟩ → Calls Try.prog 33 #[.pointer (some ⟨w1.heap.size + 1, 0, none⟩)] W fun e w' => e = .returned (.int .i64 0) ∧ W = w' := fun W hW => err_any (w1.heap.size + 1) ⟨0, [UInt8.ofNat c]⟩ W hW
          have hL8 : ∀ W, RdAt W (w1.heap.size + 1) ⟨0, [UInt8.ofNat c]⟩ → Calls Try.prog 35 #[.pointer (some ⟨w1.heap.size + 1, 0, none⟩)] W fun e w' => e = .returned (.int .i64 1) ∧ W = w' := fun W hW => left_any (w1.heap.size + 1) ⟨0, [UInt8.ofNat c]⟩ W hW
          have hE8 : ∀ W, RdAt W (w1.heap.size + 1) ⟨0, [UInt8.ofNat c]⟩ → Calls Try.prog 31 #[.pointer (some ⟨w1.heap.size + 1, 0, none⟩)] W fun e w' => e = .returned (.int .i64 4) ∧ RdGo W (w1.heap.size + 1) ⟨4, [UInt8.ofNat c]⟩ w' := fun W hW => end_any (w1.heap.size + 1) ⟨0, [UInt8.ofNat c]⟩ W hW
          have HH := Lib.hid (And.intro hL7 (And.intro hE7 (And.intro hR8 (And.intro hL8 hE8))))
          have hgz : wo.heap.size < w1.heap.size + 1 := by omega
          clear hL7 hE7 hR8 hL8 hE8 e0
          go_wp2_with fail
          refine (HH.out.1 _ kg.i2).mono ?_; rintro e wx ⟨rfl, rfl⟩
          go_wp2_with fail
          refine (HH.out.2.1 _ kg.i2).mono ?_; rintro e w3 ⟨rfl, g3⟩
          have kg := kg.swap.rd g3 (by simp; omega) (Nat.le_refl _)
          clear g3
          go_wp2_with fail
          refine (HH.out.2.2.1 _ kg.i2).mono ?_; rintro e wx ⟨rfl, rfl⟩
          go_wp2_with fail
          refine (HH.out.2.2.2.1 _ kg.i2).mono ?_; rintro e wx ⟨rfl, rfl⟩
          go_wp2_with fail
          refine (HH.out.2.2.2.2 _ kg.i2).mono ?_; rintro e w4 ⟨rfl, g4⟩
          have kg := kg.swap.rd g4 (by simp; omega) (by omega)
          clear g4 HH
          by_cases hl0 : l.length = 0
          · have hb0 : ((l.length : Int) == 0) = true := by rw [hl0]; rfl
            have HL0 := Lib.hid hl0
            clear hl0
            go_wp2_with fail
            refine (wakes_any _).mono ?_; rintro e w5 ⟨rfl, B5⟩
            have kg := kg.below B5
            go_wp2
            go_ret
            exact ⟨rfl, hbw.trans (kg.bw.mono hbw.size)⟩
          · have hb0 : ((l.length : Int) == 0) = false := beq_eq_false_iff_ne.2 (by omega)
            have hB1 : 1 ≤ B.length := by omega
            have hpre := Reads.pre (k := B.length - 1) ((hr.below kg.bw).more kg.bw.size) (by omega)
            have hv : (bv B).take (B.length - 1) = bv B.dropLast := by unfold bv; rw [← List.map_take, ← List.dropLast_eq_take]
            rw [hv] at hpre
            have hcv4 := conv_str Try.underlying37 Try.underlying5 Try.underlying9 c1 hpre
            have hw1 : IntKind.i64.wrap ((B.length : Int) - 1) = (B.length : Int) - 1 := IntWalk.i64_in _ (by omega)
            have htn : ((B.length : Int) - 1).toNat = B.length - 1 := by omega
            have hb1 : (1 : Int) ≤ (B.length : Int) := by omega
            have hb2 : (B.length : Int) - 1 ≤ (c1 : Int) := by omega
            have hless : LessAt l 0 ⟨0, B.dropLast⟩ := ⟨fun _ => by rw [hB.out]; rfl, fun h => by omega⟩
            have hdl : B.dropLast.length ≤ 10000 := by rw [List.length_dropLast]; omega
            clear hv hpre hl0
            go_wp2_with fail
            refine (of_any B.dropLast _).mono ?_; rintro e w5 ⟨rfl, rfl⟩
            have k5 := kg.new 80 (rdC ⟨0, B.dropLast⟩)
            have hg5 : wo.heap.size ≤ w4.heap.size := kg.bw.size
            generalize w4.alloc (.cells (rdC ⟨0, B.dropLast⟩) 80) = w5 at *
            clear hcv4 hw1 htn
            go_wp2_with fail
            go_loopg [11] l.length (fun gk i wx => Back3At l wo w4.heap.size gk i wx)
            case atStart => exact ⟨0, _, by omega, rfl, hless, hdl, k5.sub (by simp)⟩
            case round =>
              clear k5 kg hless hdl
              obtain ⟨k, q, hk, rfl, hq, hql, kg⟩ := hrel
              by_cases hlt : k < l.length
              · obtain ⟨x, hx⟩ : ∃ x, l[k]? = some x := ⟨_, List.getElem?_eq_getElem hlt⟩
                obtain ⟨ad, rfl, hadl, a0, a1⟩ := h.at_ hx
                have hb := hbw.trans (kg.bw.mono hbw.size)
                have a0 := (hb.cell (by rw [block_of_add]; exact hadl)).trans (a0 _ rfl)
                have hst := less_step l hok k x hx q hq
                have hrs := itR_rest q x
                unfold itR at hst hrs
                obtain ⟨xt, xn, xs⟩ := x
                simp only at hst hrs a0
                have hki : (k : Int) < (l.length : Int) := by omega
                clear hx a1 hq
                cases xt
                · simp only [Bool.false_eq_true, if_false] at hst hrs
                  go_wp2_with fail
                  refine (num_any w4.heap.size q (by omega) _ kg.i1).mono ?_; rintro e w6 ⟨rfl, g6⟩
                  have kg := kg.rd g6 (by simp) hg5
                  have HST := Lib.hid hst
                  clear g6 hst a0
                  go_wp2_with fail
                  go_roundg (l.length - (k + 1))
                  case measure => omega
                  case rel => exact ⟨k + 1, _, by omega, by go_num, HST.out, by omega, kg⟩
                · simp only [if_true] at hst hrs
                  go_wp2_with fail
                  refine (str_any w4.heap.size q 100 (by decide) (by decide) (by omega) _ kg.i1).mono ?_; rintro e w6 ⟨rfl, g6⟩
                  have kg := kg.rd g6 (by simp) hg5
                  have HST := Lib.hid hst
                  clear g6 hst a0
                  go_wp2_with fail
                  go_roundg (l.length - (k + 1))
                  case measure => omega
                  case rel => exact ⟨k + 1, _, by omega, by go_num, HST.out, by omega, kg⟩
              · obtain rfl : k = l.length := by omega
                have he := hq.2 rfl
                have hR : ∀ W, RdAt W w4.heap.size q → Calls Try.prog 33 #[.pointer (some ⟨w4.heap.size, 0, none⟩)] W fun e w' => e = .returned (.int .i64 3) ∧ W = w' := fun W hW => by
                  have := err_any w4.heap.size q W hW
                  rw [he] at this
                  exact this
                have hL : ∀ W, RdAt W w4.heap.size q → Calls Try.prog 35 #[.pointer (some ⟨w4.heap.size, 0, none⟩)] W fun e w' => e = .returned (.int .i64 0) ∧ W = w' := fun W hW => by
                  have := left_any w4.heap.size q W hW
                  rw [left_of_err q he] at this
                  exact this
                have HH := Lib.hid (And.intro hR hL)
                clear hR hL he hq
                go_wp2_with fail
                refine (HH.out.1 _ kg.i1).mono ?_; rintro e wx ⟨rfl, rfl⟩
                go_wp2_with fail
                refine (HH.out.2 _ kg.i1).mono ?_; rintro e wx ⟨rfl, rfl⟩
                go_wp2_with fail
                refine (wakes_any _).mono ?_; rintro e w9 ⟨rfl, B9⟩
                have kg := kg.below B9
                go_wp2
                go_ret
                exact ⟨rfl, hbw.trans (kg.bw.mono hbw.size)⟩
end Go.Proofs.Ytgoppdllknimfaa.Wire
