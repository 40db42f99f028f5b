/- The document's Top of ballots, walked; it is the program's. Conditions: a list is one that can be read. -/
import Derived.Test.YtgoppdllknimfaaBalTop
import Derived.Deep.RegionHeld3
import Derived.Deep.QuietTactic
import Derived.BigQuiet
namespace Go.Proofs.Ytgoppdllknimfaa.Bal
open Go.RowKit

def mostN (l : List B) (b : B) : Bool := l.all fun x => !ltB b x
def rtN (l p : List B) : B := p.foldl (fun t b => if mostN l b then b else t) ⟨0, 0⟩
theorem mostN_snoc (l : List B) (b x : B) : mostN (l ++ [x]) b = (mostN l b && !ltB b x) := by unfold mostN; simp
theorem rtN_snoc (l p : List B) (b : B) : rtN l (p ++ [b]) = if mostN l b then b else rtN l p := by unfold rtN; rw [List.foldl_append]; rfl

/-! ### The plain law -/
theorem ltB_iff (a b : B) : ltB a b = true ↔ a.n < b.n ∨ (a.n = b.n ∧ a.r < b.r) := by unfold ltB; simp
theorem ltB_false (a b : B) : ltB a b = false ↔ b.n < a.n ∨ (a.n = b.n ∧ b.r ≤ a.r) := by
  rw [← Bool.not_eq_true, ltB_iff]
  constructor
  · intro h; omega
  · intro h; omega
theorem eq_of_not_lt {a b : B} (h1 : ltB a b = false) (h2 : ltB b a = false) : a = b := by
  rw [ltB_false] at h1 h2
  obtain ⟨n, r⟩ := a
  obtain ⟨m, q⟩ := b
  simp only [B.mk.injEq] at *
  omega
theorem not_lt_trans {a b c : B} (h1 : ltB a b = false) (h2 : ltB b c = false) : ltB a c = false := by
  rw [ltB_false] at *
  omega
theorem not_lt_of_lt {a b : B} (h : ltB a b = true) : ltB b a = false := by
  rw [ltB_iff] at h
  rw [ltB_false]
  omega
theorem not_lt_zero (a : B) : ltB a ⟨0, 0⟩ = false := by rw [ltB_false]; simp only; omega
theorem foldTop (l : List B) (t0 : B) :
    (l.foldl (fun t b => if ltB t b then b else t) t0 = t0 ∨ l.foldl (fun t b => if ltB t b then b else t) t0 ∈ l) ∧ ltB (l.foldl (fun t b => if ltB t b then b else t) t0) t0 = false ∧
      ∀ x ∈ l, ltB (l.foldl (fun t b => if ltB t b then b else t) t0) x = false := by
  induction l generalizing t0 with
  | nil => exact ⟨.inl rfl, by rw [List.foldl_nil, ltB_false]; omega, by simp⟩
  | cons b l ih =>
    simp only [List.foldl_cons]
    cases h : ltB t0 b
    · obtain ⟨h1, h2, h3⟩ := ih t0
      simp only [if_neg (Bool.false_ne_true)]
      refine ⟨?_, h2, ?_⟩
      · rcases h1 with h1 | h1
        · exact .inl h1
        · exact .inr (List.mem_cons_of_mem _ h1)
      · intro x hx
        rcases List.mem_cons.1 hx with rfl | hx
        · exact not_lt_trans h2 h
        · exact h3 x hx
    · obtain ⟨h1, h2, h3⟩ := ih b
      simp only [if_true]
      refine ⟨?_, not_lt_trans h2 (not_lt_of_lt h), ?_⟩
      · rcases h1 with h1 | h1
        · right; rw [h1]; exact List.mem_cons_self ..
        · exact .inr (List.mem_cons_of_mem _ h1)
      · intro x hx
        rcases List.mem_cons.1 hx with rfl | hx
        · exact h2
        · exact h3 x hx
theorem topN_max (l : List B) : ∀ x ∈ l, ltB (topN l) x = false := (foldTop l ⟨0, 0⟩).2.2
theorem topN_mem (l : List B) (h : l ≠ []) : topN l ∈ l := by
  rcases (foldTop l ⟨0, 0⟩).1 with h1 | h1
  · match l, h with
    | x :: l, _ =>
      have hx := topN_max (x :: l) x (List.mem_cons_self ..)
      have : x = ⟨0, 0⟩ := eq_of_not_lt (not_lt_zero x) (by rw [show topN (x :: l) = ⟨0, 0⟩ from h1] at hx; exact hx)
      rw [show topN (x :: l) = ⟨0, 0⟩ from h1, ← this]
      exact List.mem_cons_self ..
  · exact h1
theorem mostN_iff (l : List B) (b : B) : mostN l b = true ↔ ∀ x ∈ l, ltB b x = false := by unfold mostN; simp
theorem rtN_is (l p : List B) (t : B) (ht : ∀ x ∈ l, ltB t x = false) (htl : t ∈ l) (hp : ∀ x ∈ p, x ∈ l) (z : B) :
    p.foldl (fun t b => if mostN l b then b else t) z = if t ∈ p then t else z := by
  have hm : ∀ b ∈ l, mostN l b = true ↔ b = t := by
    intro b hb
    rw [mostN_iff]
    constructor
    · intro h; exact eq_of_not_lt (h t htl) (ht b hb)
    · rintro rfl; exact ht
  induction p generalizing z with
  | nil => simp
  | cons b p ih =>
    rw [List.foldl_cons, ih (fun x hx => hp x (List.mem_cons_of_mem _ hx))]
    by_cases h1 : t ∈ p
    · simp [h1]
    · by_cases h2 : b = t
      · have := (hm b (hp b (List.mem_cons_self ..))).2 h2
        subst h2
        simp [h1, this]
      · have h3 : mostN l b = false := by
          rw [← Bool.not_eq_true]
          exact fun h => h2 ((hm b (hp b (List.mem_cons_self ..))).1 h)
        have h4 : ¬ t = b := fun e => h2 e.symm
        simp [h1, h3, h4]
theorem rt_top (l : List B) : rtN l l = topN l := by
  by_cases h : l = []
  · subst h; rfl
  · have h1 := topN_mem l h
    unfold rtN
    rw [rtN_is l l (topN l) (topN_max l) h1 (fun _ hx => hx) ⟨0, 0⟩, if_pos h1]

/-! ### The walk -/
def RefTopAt (l : List B) (w : World) (i : Value) (wr : World) : Prop :=
  ∃ k : Nat, k ≤ l.length ∧ i = .int .i64 (k : Int) ∧ Blk wr (w.heap.size + 1) 25 (bC (rtN l (l.take k))) ∧ Blk wr w.heap.size 25 (bC ⟨0, 0⟩) ∧ Below w.heap.size w wr
def MostAt (l : List B) (b : B) (wo : World) (m j : Value) (wr : World) : Prop :=
  ∃ k : Nat, k ≤ l.length ∧ j = .int .i64 (k : Int) ∧ m = .bool (mostN (l.take k) b) ∧ Below wo.heap.size wo wr

set_option maxRecDepth 100000 in
set_option maxHeartbeats 4000000 in
theorem refTop_any (l : List B) (hl : l.length ≤ 1000) (A : Option Addr) (c : Nat) (w : World) (h : Balls w A l) :
    Calls Try.prog 22 #[.slice A l.length c] w fun e w' => e = .returned (bV (topN l)) ∧ Below w.heap.size w w' := by
  rw [← rt_top]
  go_enter Try.func22, Try.ntmps22
  go_wp2
  go_loopw [4] (fun i wr => RefTopAt l w i wr) (fun i _ => l.length - (intOf i).toNat)
  case atStart =>
    have hB := below_2 w (.cells (bC ⟨0, 0⟩) 25) (.cells (bC ⟨0, 0⟩) 25)
    refine ⟨0, by omega, rfl, ?_, ?_, hB⟩
    · have := Blk.new (w.alloc (.cells (bC ⟨0, 0⟩) 25)) 25 (bC ⟨0, 0⟩)
      have e : (w.alloc (.cells (bC ⟨0, 0⟩) 25)).heap.size = w.heap.size + 1 := by simp
      rw [e] at this
      exact this
    · exact (Blk.new w 25 (bC ⟨0, 0⟩)).alloc _
  case round =>
    obtain ⟨k, hk, rfl, hT, hR, hB⟩ := hrel
    by_cases hlt : k < l.length
    · obtain ⟨wo, rfl⟩ : ∃ wo : World, wo = wr := ⟨_, rfl⟩
      have hb : l[k]? = some l[k] := List.getElem?_eq_getElem hlt
      generalize l[k] = b at hb
      have hBl := h.below hB
      go_wp2
      go_loopw [5, 6] (fun m j wr => MostAt l b wo m j wr) (fun _ j _ => l.length - (intOf j).toNat)
      case atStart => exact ⟨0, by omega, rfl, rfl, Below.refl _ _⟩
      case round =>
        rename_i wi _ _ _ _ _ _ _ _ _ _ _ _ _ _ _ _ _ _
        obtain ⟨j, hj, rfl, rfl, hb2⟩ := hrel
        by_cases hlt2 : j < l.length
        · have hx : l[j]? = some l[j] := List.getElem?_eq_getElem hlt2
          generalize l[j] = x at hx
          obtain ⟨ad, rfl, hlb, c0, c1⟩ := hBl k b hb
          obtain ⟨ad', e', _, d0, d1⟩ := hBl j x hx
          obtain rfl := Option.some.inj e'
          have c0' := (hb2.cell (by rw [block_of_add]; exact hlb)).trans c0
          have c1' := (hb2.cell (by rw [block_of_add]; exact hlb)).trans c1
          have d0' := (hb2.cell (by rw [block_of_add]; exact hlb)).trans d0
          have d1' := (hb2.cell (by rw [block_of_add]; exact hlb)).trans d1
          rw [← add_next] at c1' d1'
          clear c0 c1 d0 d1 e'
          have hS := mostN_snoc (l.take j) b x
          rw [← take_snoc l j x hx] at hS
          have HS := Lib.hid hS
          have HB := Lib.hid hb2
          clear hS hb2 hT hR hB hBl hb hx
          cases hm : mostN (l.take j) b
          · have HM := Lib.hid hm
            clear hm
            go_wp2_with fail
            go_quiet (fail)
            all_goals
              go_wp2
              exact ⟨⟨j + 1, by omega, by go_num, by rw [HS.out, HM.out]; rfl, (by first | exact HB.out.drew | exact HB.out | exact below_drewN HB.out _)⟩, by simp [intOf]; omega⟩
          · have HM := Lib.hid hm
            clear hm
            go_wp2_with fail
            go_region_with (first | (go_at_call 20; refine (refBelow_any b x _).mono ?_; rintro e w5 ⟨rfl, hal⟩; have hb5 := hal.below; clear hal))
            all_goals
              go_wp2
              exact ⟨⟨j + 1, by omega, by go_num, by rw [HS.out, HM.out]; simp, HB.out.drew.trans (hb5.mono HB.out.size)⟩, by simp [intOf]; omega⟩
        · obtain rfl : j = l.length := by omega
          simp only [List.take_length]
          have hTi := hT.below hb2 hT.lt
          have hRi := hR.below hb2 hR.lt
          have hBi := hB.trans (hb2.mono hB.size)
          have hS := rtN_snoc l (l.take k) b
          rw [← take_snoc l k b hb] at hS
          have HS := Lib.hid hS
          obtain ⟨ad, rfl, hlb, c0, c1⟩ := hBl k b hb
          have c0' := (hb2.cell (by rw [block_of_add]; exact hlb)).trans c0
          have c1' := (hb2.cell (by rw [block_of_add]; exact hlb)).trans c1
          rw [← add_next] at c1'
          clear c0 c1 hS
          have t0 := hTi.cell 0
          have t1 := hTi.cell 1
          simp [bC] at t0 t1
          have f0 := hTi.frozen 0
          have f1 := hTi.frozen 1
          have HT := Lib.hid (hTi.set_ 0 (.int .u64 (b.n : Int)) |>.set_ 1 (.int .u8 (b.r : Int)))
          have HR := Lib.hid ((hRi.far (p := ⟨w.heap.size + 1, 0, none⟩) (by simp) (.int .u64 (b.n : Int))).far (p := ⟨w.heap.size + 1, 1, none⟩) (by simp) (.int .u8 (b.r : Int)))
          have HB := Lib.hid ((hBi.setCell (p := ⟨w.heap.size + 1, 0, none⟩) (by simp) (.int .u64 (b.n : Int))).setCell (p := ⟨w.heap.size + 1, 1, none⟩) (by simp) (.int .u8 (b.r : Int)))
          have HT0 := Lib.hid hTi
          have HR0 := Lib.hid hRi
          have HB0 := Lib.hid hBi
          clear hTi hRi hBi hT hR hB hb2 hBl hb
          cases hm : mostN l b
          · have HM := Lib.hid hm
            clear hm
            go_wp2
            exact ⟨⟨k + 1, by omega, by go_num, by rw [HS.out, HM.out]; exact HT0.out, HR0.out, HB0.out⟩, by simp [intOf]; omega⟩
          · have HM := Lib.hid hm
            clear hm
            go_wp2
            exact ⟨⟨k + 1, by omega, by go_num, by rw [HS.out, HM.out]; exact HT.out, HR.out, HB.out⟩, by simp [intOf]; omega⟩
    · have hk2 : k = l.length := by omega
      generalize ht : rtN l (l.take k) = t at *
      have ht2 : rtN l l = t := by rw [← ht, hk2, List.take_length]
      have H := Lib.hid ht2
      have t0 := hT.cell 0
      have t1 := hT.cell 1
      have q0 := hR.cell 0
      have q1 := hR.cell 1
      have r0 := hR.frozen 0
      have r1 := hR.frozen 1
      simp [bC] at t0 t1 q0 q1
      have HB := Lib.hid ((hB.setCell (p := ⟨w.heap.size, 0, none⟩) (by simp) (.int .u64 (t.n : Int))).setCell (p := ⟨w.heap.size, 1, none⟩) (by simp) (.int .u8 (t.r : Int)))
      have y0 := (hR.set_ 0 (.int .u64 (t.n : Int))).cell 0
      have y1 := ((hR.set_ 0 (.int .u64 (t.n : Int))).set_ 1 (.int .u8 (t.r : Int))).cell 1
      simp [bC] at y0 y1
      have Y0 := Lib.hid y0
      have Y1 := Lib.hid y1
      clear ht2 ht hk2 y0 y1
      go_wp2
      rw [H.out]
      have y0 := Y0.out
      have y1 := Y1.out
      refine bodyPost_ret (v := bV t) (by simp [results, Try.results22, go_sem, bV, bC, y0, y1]) rfl ⟨rfl, HB.out⟩
end Go.Proofs.Ytgoppdllknimfaa.Bal
