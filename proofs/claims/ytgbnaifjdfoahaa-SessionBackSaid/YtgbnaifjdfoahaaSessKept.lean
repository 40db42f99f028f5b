/- What was kept, as a list: the document's Last and Look, walked; they are the table's. Conditions: the list can be read. -/
import Derived.Test.YtgbnaifjdfoahaaSessRise
import Derived.Test.YtgbnaifjdfoahaaRowsReads
import Derived.Test.YtgbnaifjdfoahaaKeepN
namespace Go.Proofs.Ytgbnaifjdfoahaa.Sess
open Go.RowKit

def kpC (e : Kp) : List Value := [.int .u8 (e.client : Int), .int .u32 (e.seq : Int), .int .u8 (e.code : Int), .string e.text]
def kpA (e : Kp) : Array Value := #[.int .u8 (e.client : Int), .int .u32 (e.seq : Int), .int .u8 (e.code : Int), .string e.text]
theorem kpC_len (e : Kp) : (kpC e).length = 4 := rfl
theorem rows_kepts {w : World} {A : Option Addr} {l : List Kp} (h : Kepts w A l) : Rows w A 4 kpC l := by
  intro k x hk
  obtain ⟨ad, e, hb, h0, h1, h2, h3⟩ := h k x hk
  refine ⟨ad, e, hb, fun j v hv => ?_⟩
  rw [← add_of_add]
  match j, hv with
  | 0, hv => rw [h0]; exact hv
  | 1, hv => rw [h1]; exact hv
  | 2, hv => rw [h2]; exact hv
  | 3, hv => rw [h3]; exact hv
theorem kepts_rows {w : World} {A : Option Addr} {l : List Kp} (h : Rows w A 4 kpC l) : Kepts w A l := by
  intro k x hk
  obtain ⟨ad, e, hb, h0⟩ := h k x hk
  have g : ∀ j v, (kpC x)[j]? = some v → w.cell? ((ad.add (k * 4)).add j) = some v := fun j v hv => by rw [add_of_add]; exact h0 j v hv
  exact ⟨ad, e, hb, g 0 _ rfl, g 1 _ rfl, g 2 _ rfl, g 3 _ rfl⟩
/-- What was kept of a client last. -/
def lastL (l : List Kp) (c : Nat) : Kp := l.foldl (fun o x => if x.client = c then x else o) ⟨c, 0, 0, noText⟩
theorem lastL_snoc (l : List Kp) (x : Kp) (c : Nat) : lastL (l ++ [x]) c = if x.client = c then x else lastL l c := by unfold lastL; rw [List.foldl_append]; rfl
theorem lastL_take (l : List Kp) (k : Nat) (x : Kp) (h : l[k]? = some x) (c : Nat) : lastL (l.take (k + 1)) c = if x.client = c then x else lastL (l.take k) c := by
  rw [List.take_add_one, h]
  exact lastL_snoc _ _ _
theorem lastL_client (l : List Kp) (c : Nat) : (lastL l c).client = c := by
  suffices h : ∀ o : Kp, o.client = c → (l.foldl (fun o x => if x.client = c then x else o) o).client = c from h _ rfl
  induction l with
  | nil => intro o h; exact h
  | cons x l ih =>
    intro o h
    rw [List.foldl_cons]
    apply ih
    split
    · assumption
    · exact h
theorem lastL_fits (l : List Kp) (c : Nat) (hc : c < 256) (P : ByteArray → Prop) (h0 : P noText) (h : ∀ x ∈ l, Kp.Fits x ∧ P x.text) : Kp.Fits (lastL l c) ∧ P (lastL l c).text := by
  suffices g : ∀ o : Kp, (Kp.Fits o ∧ P o.text) → Kp.Fits (l.foldl (fun o x => if x.client = c then x else o) o) ∧ P (l.foldl (fun o x => if x.client = c then x else o) o).text from g _ ⟨⟨hc, by show 0 < _; omega, by show 0 < _; omega, by simp [noText, ByteArray.size]⟩, h0⟩
  clear h0
  induction l with
  | nil => intro o ho; exact ho
  | cons x l ih =>
    intro o ho
    rw [List.foldl_cons]
    apply ih (fun y hy => h y (by simp [hy]))
    split
    · exact h x (by simp)
    · exact ho
/-- The table of what was kept. -/
def tabOf (l : List Kp) : Nat → Ent := fun c => ⟨(lastL l c).seq, (lastL l c).code, (lastL l c).text⟩

/-! ### Last -/
def LastAt (l : List Kp) (c : Nat) (w : World) (gk : Nat) (i : Value) (wr : World) : Prop :=
  ∃ k : Nat, k + gk = l.length ∧ i = .int .i64 (k : Int) ∧ Kg [(w.heap.size + 1, 33, kpA (lastL (l.take k) c)), (w.heap.size, 33, kpA ⟨0, 0, 0, noText⟩)] w wr
set_option linter.unusedSimpArgs false in
set_option maxRecDepth 100000 in
set_option maxHeartbeats 4000000 in
theorem refLast_any (l : List Kp) (hl : l.length ≤ 9223372036854775807) (c : Nat) (A : Option Addr) (cap : Nat) (w : World) (h : Rows w A 4 kpC l) :
    Calls Try.prog 52 #[.slice A l.length cap, .int .u8 (c : Int)] w fun e w' => e = .returned (.agg (kpA (lastL l c))) ∧ Below w.heap.size w w' := by
  have k0 := kgn2 w 33 33 (kpA ⟨0, 0, 0, noText⟩) (kpA ⟨c, 0, 0, noText⟩)
  go_enter Try.func52, Try.ntmps52
  go_wp2_with fail
  go_loopg [6] l.length (fun gk i wr => LastAt l c w gk i wr)
  case atStart => exact ⟨0, by omega, rfl, k0⟩
  case round =>
    clear k0
    obtain ⟨k, hk, rfl, kg⟩ := hrel
    have s1 := kg.i1.lt
    simp only at s1
    by_cases hlt : k < l.length
    · obtain ⟨x, hx⟩ : ∃ x, l[k]? = some x := ⟨_, List.getElem?_eq_getElem hlt⟩
      obtain ⟨ad, rfl, hadl, a0, a1⟩ := h.at_ hx
      have a1' := a1 0
      have a2' := a1 1
      have a3' := a1 2
      have a0 := (kg.bw.cell (by rw [block_of_add]; exact hadl)).trans (a0 _ rfl)
      have a1 := (kg.bw.cell (by show (ad.add (k * 4)).block < _; rw [block_of_add]; exact hadl)).trans (a1' _ rfl)
      have a2 := (kg.bw.cell (by show (ad.add (k * 4)).block < _; rw [block_of_add]; exact hadl)).trans (a2' _ rfl)
      have a3 := (kg.bw.cell (by show (ad.add (k * 4)).block < _; rw [block_of_add]; exact hadl)).trans (a3' _ rfl)
      have hst := lastL_take l k x hx c
      have HST := Lib.hid hst
      have hki : (k : Int) < (l.length : Int) := by omega
      clear a1' a2' a3' hx hst
      generalize lastL (l.take k) c = o at *
      obtain ⟨xc, xs, xk, xt⟩ := x
      simp only at a0 a1 a2 a3
      unfold kpA at kg
      by_cases hcc : xc = c
      · have hb : ((xc : Int) == (c : Int)) = true := by rw [hcc]; exact beq_self_eq_true _
        have HC := Lib.hid hcc
        obtain ⟨c0, c1, c2, c3⟩ := kg.i1.c4
        obtain ⟨f0, f1, f2, f3⟩ := kg.i1.f4
        have kk := kg.set4x (v0 := .int .u8 (xc : Int)) (v1 := .int .u32 (xs : Int)) (v2 := .int .u8 (xk : Int)) (v3 := .string xt) (by simp) (Nat.le_succ _)
        clear hcc
        go_wp2_with fail
        go_roundg (l.length - (k + 1))
        case measure => omega
        case rel => exact ⟨k + 1, by omega, by go_num, by rw [HST.out, if_pos HC.out]; exact kk⟩
      · have hb : ((xc : Int) == (c : Int)) = false := beq_eq_false_iff_ne.2 (by omega)
        have HC := Lib.hid hcc
        clear hcc
        go_wp2_with fail
        go_roundg (l.length - (k + 1))
        case measure => omega
        case rel => exact ⟨k + 1, by omega, by go_num, by rw [HST.out, if_neg HC.out]; exact kg⟩
    · obtain rfl : k = l.length := by omega
      rw [List.take_length] at kg
      obtain ⟨o, ho⟩ : ∃ o, lastL l c = o := ⟨_, rfl⟩
      rw [ho] at kg
      have HO := Lib.hid ho
      clear ho
      obtain ⟨oc, os, ok, ot⟩ := o
      unfold kpA at kg
      simp only at kg
      obtain ⟨c0, c1, c2, c3⟩ := kg.i1.c4
      obtain ⟨d0, d1, d2, d3⟩ := kg.i2.c4
      obtain ⟨f0, f1, f2, f3⟩ := kg.i2.f4
      go_wp2_with fail
      have kk := kg.swap.set4x (v0 := .int .u8 (oc : Int)) (v1 := .int .u32 (os : Int)) (v2 := .int .u8 (ok : Int)) (v3 := .string ot) (by simp) (Nat.le_refl _)
      obtain ⟨y0, y1, y2, y3⟩ := kk.i1.c4
      rw [HO.out]
      refine bodyPost_ret (v := .agg #[.int .u8 (oc : Int), .int .u32 (os : Int), .int .u8 (ok : Int), .string ot]) (by simp [results, Try.results52, go_sem, y0, y1, y2, y3]) rfl ⟨rfl, kk.bw⟩

/-! ### Look -/
theorem tab_look (l : List Kp) (c s : Nat) : lookN (tabOf l) c s = if 4 ≤ c ∨ s = 0 then (2, noText, 0) else if (lastL l c).seq < s then (0, noText, 1) else if s = (lastL l c).seq then ((lastL l c).code, (lastL l c).text, 2) else (3, noText, 3) := rfl
set_option linter.unusedSimpArgs false in
set_option maxRecDepth 100000 in
set_option maxHeartbeats 4000000 in
theorem refLook_any (l : List Kp) (hl : l.length ≤ 9223372036854775807) (c s : Nat) (A : Option Addr) (cap : Nat) (w : World) (h : Rows w A 4 kpC l) :
    Calls Try.prog 18 #[.slice A l.length cap, .int .u8 (c : Int), .int .u32 (s : Int)] w fun e w' => LookRet (lookN (tabOf l) c s) e ∧ Below w.heap.size w w' := by
  rw [tab_look]
  have k0 := (Kg.refl w).new 27 #[.int .u8 0, .string noText]
  have hL := fun W hW => refLast_any l hl c A cap W hW
  generalize lastL l c = o at *
  obtain ⟨oc, os, ok, ot⟩ := o
  unfold kpA at hL
  simp only at hL ⊢
  have HL := Lib.hid hL
  clear hL
  unfold LookRet
  by_cases h1 : 4 ≤ c ∨ s = 0
  · rw [if_pos h1]
    by_cases h4 : 4 ≤ c
    · go_enter Try.func18, Try.ntmps18
      go_wp2
      refine bodyPost_ret (v := .tuple #[.agg #[.int .u8 2, .string noText], .int .u8 0]) (by simp [results, Try.results18, go_sem, noText]) rfl ⟨rfl, ?_⟩
      exact (Below.refl _ _).alloc (Nat.le_refl _) _
    · obtain rfl : s = 0 := by omega
      go_enter Try.func18, Try.ntmps18
      go_wp2
      refine bodyPost_ret (v := .tuple #[.agg #[.int .u8 2, .string noText], .int .u8 0]) (by simp [results, Try.results18, go_sem, noText]) rfl ⟨rfl, ?_⟩
      exact (Below.refl _ _).alloc (Nat.le_refl _) _
  · rw [if_neg h1]
    have h0 : ((s : Int) == 0) = false := beq_eq_false_iff_ne.2 (by omega)
    have h3 : ¬ (3 : Int) < (c : Int) := by omega
    have hr := h.below k0.bw
    by_cases h5 : os < s
    · rw [if_pos h5]
      clear h1
      go_enter Try.func18, Try.ntmps18
      go_wp2_with fail
      refine (HL.out _ hr).mono ?_; rintro e w1 ⟨rfl, B1⟩
      have k := k0.below B1
      have hz := k.i1.lt
      simp only at hz
      have hne : ¬ w.heap.size = w1.heap.size := by omega
      obtain ⟨d0, d1⟩ := k.i1.c2
      obtain ⟨f0, f1⟩ := k.i1.f2
      clear B1
      go_wp2_with fail
      have kk := k.set2 (v0 := .int .u8 0) (v1 := .string ⟨#[]⟩) (by simp) (Nat.le_refl _)
      have kk := kk.alloc (.cells #[.int .u8 (oc : Int), .int .u32 (os : Int), .int .u8 (ok : Int), .string ot] 33)
      obtain ⟨y0, y1⟩ := kk.i1.c2
      refine bodyPost_ret (v := .tuple #[.agg #[.int .u8 0, .string noText], .int .u8 1]) (by simp [results, Try.results18, go_sem, y0, y1, noText]) rfl ⟨rfl, kk.bw⟩
    · rw [if_neg h5]
      by_cases h6 : s = os
      · rw [if_pos h6]
        have hb : ((s : Int) == (os : Int)) = true := by rw [h6]; exact beq_self_eq_true _
        clear h6
        clear h1
        go_enter Try.func18, Try.ntmps18
        go_wp2_with fail
        refine (HL.out _ hr).mono ?_; rintro e w1 ⟨rfl, B1⟩
        have k := k0.below B1
        have hz := k.i1.lt
        simp only at hz
        have hne : ¬ w.heap.size = w1.heap.size := by omega
        obtain ⟨d0, d1⟩ := k.i1.c2
        obtain ⟨f0, f1⟩ := k.i1.f2
        clear B1
        go_wp2_with fail
        have kk := k.set2 (v0 := .int .u8 (ok : Int)) (v1 := .string ot) (by simp) (Nat.le_refl _)
        have kk := kk.alloc (.cells #[.int .u8 (oc : Int), .int .u32 (os : Int), .int .u8 (ok : Int), .string ot] 33)
        obtain ⟨y0, y1⟩ := kk.i1.c2
        refine bodyPost_ret (v := .tuple #[.agg #[.int .u8 (ok : Int), .string ot], .int .u8 2]) (by simp [results, Try.results18, go_sem, y0, y1, noText]) rfl ⟨rfl, kk.bw⟩
      · rw [if_neg h6]
        have hb : ((s : Int) == (os : Int)) = false := beq_eq_false_iff_ne.2 (by omega)
        clear h6
        clear h1
        go_enter Try.func18, Try.ntmps18
        go_wp2_with fail
        refine (HL.out _ hr).mono ?_; rintro e w1 ⟨rfl, B1⟩
        have k := k0.below B1
        have hz := k.i1.lt
        simp only at hz
        have hne : ¬ w.heap.size = w1.heap.size := by omega
        obtain ⟨d0, d1⟩ := k.i1.c2
        obtain ⟨f0, f1⟩ := k.i1.f2
        clear B1
        go_wp2_with fail
        have kk := k.set2 (v0 := .int .u8 3) (v1 := .string ⟨#[]⟩) (by simp) (Nat.le_refl _)
        have kk := kk.alloc (.cells #[.int .u8 (oc : Int), .int .u32 (os : Int), .int .u8 (ok : Int), .string ot] 33)
        obtain ⟨y0, y1⟩ := kk.i1.c2
        refine bodyPost_ret (v := .tuple #[.agg #[.int .u8 3, .string noText], .int .u8 3]) (by simp [results, Try.results18, go_sem, y0, y1, noText]) rfl ⟨rfl, kk.bw⟩
end Go.Proofs.Ytgbnaifjdfoahaa.Sess
