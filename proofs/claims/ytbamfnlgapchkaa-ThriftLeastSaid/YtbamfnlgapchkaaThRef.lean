/- The reference of a memory of who was heard of, walked: Heard. Conditions: the lists can be read. -/
import Derived.Test.YtbamfnlgapchkaaThP
import Derived.Test.YtbamfnlgapchkaaChROf
namespace Go.Proofs.Ytbamfnlgapchkaa.Thr
open Go.RowKit Mem DrawInv Chn

/-- Where a list that is handed back lies: where the old one lay, or in new memory. -/
def FromB (w : World) (A A' : Option Addr) (w' : World) : Prop := ∀ ad', A' = some ad' → (∃ ad, A = some ad ∧ ad.block = ad'.block) ∨ (w.heap.size ≤ ad'.block ∧ ad'.block < w'.heap.size)
theorem FromB.refl (w : World) (A : Option Addr) (w' : World) : FromB w A A w' := fun ad h => .inl ⟨ad, h, rfl⟩
/-- A list that is handed back. -/
def RetL (w : World) (A0 : Option Addr) (l : List Nat) (e : Ending) (w' : World) : Prop := ∃ A k m, e = .returned (.slice A m k) ∧ m = l.length ∧ Reads w' w'.heap.size 1 A m (l.map u8v) ∧ FromB w A0 A w' ∧ Below w.heap.size w w'
theorem own_from {w : World} {base : Nat} {e : TypeId} {size n c k : Nat} {A : Option Addr} {xs : List Value} (h : w.ownsRow base e size (.slice A n c) k xs) : ∀ ad, A = some ad → base ≤ ad.block ∧ ad.block < w.heap.size := by
  intro ad he
  subst he
  rcases h.2 with ⟨h0, _⟩ | ⟨g, cap, cur, hv, hb, hh, _⟩
  · cases h0
  · cases hv; exact ⟨hb, Blk.lt hh⟩
set_option linter.unusedVariables false in
set_option maxRecDepth 100000 in
set_option maxHeartbeats 2000000 in
theorem rheard_any (me node : Nat) (l : List Nat) (n : Nat) (hn : l.length = n) (hn7 : n ≤ 100) (A : Option Addr) (c : Nat) (w : World) (hr : Reads w w.heap.size 1 A n (l.map u8v)) : Calls Try.prog 40 #[.int .u8 (me : Int), .slice A n c, .int .u8 (node : Int)] w fun e w' => RetL w A (heardT me l node) e w' := by
  obtain ⟨res, hres⟩ : ∃ r, r = heardT me l node := ⟨_, rfl⟩
  rw [← hres]
  unfold heardT at hres
  have HR := Lib.hid hr
  have HN := Lib.hid hn
  clear hr hn
  by_cases h1 : 6 < node
  · have h1i : (6 : Int) < (node : Int) := by omega
    have HQ : Hid (RetL w A res (.returned (.slice A n c)) w) := ⟨A, c, n, rfl, by rw [hres, if_pos (.inl h1)]; exact HN.out.symm, by rw [hres, if_pos (.inl h1)]; exact HR.out, FromB.refl _ _ _, Below.refl _ _⟩
    clear h1 hres
    go_enter Try.func40, Try.ntmps40
    go_wp2_with fail
    go_ret
    exact HQ.out
  have h1i : ¬ (6 : Int) < (node : Int) := by omega
  by_cases h2 : node = me
  · have h2i : ((node : Int) == (me : Int)) = true := beq_iff_eq.2 (by omega)
    have HQ : Hid (RetL w A res (.returned (.slice A n c)) w) := ⟨A, c, n, rfl, by rw [hres, if_pos (.inr h2)]; exact HN.out.symm, by rw [hres, if_pos (.inr h2)]; exact HR.out, FromB.refl _ _ _, Below.refl _ _⟩
    clear h1 h2 hres
    go_enter Try.func40, Try.ntmps40
    go_wp2_with fail
    go_ret
    exact HQ.out
  have h2i : ((node : Int) == (me : Int)) = false := beq_eq_false_iff_ne.2 (by omega)
  rw [if_neg (fun h => h.elim h1 h2)] at hres
  have HS := Lib.hid hres
  have bw : Below w.heap.size w (w.alloc (.cells #[.int .u8 (node : Int)] 5)) := (Below.refl _ w).alloc (Nat.le_refl _) _
  have ho : (w.alloc (.cells #[.int .u8 (node : Int)] 5)).ownsRow w.heap.size 5 1 (.slice (some ⟨w.heap.size, 0, none⟩) 1 1) 1 ((node :: (l.take 0).filter fun y => y != node).map u8v) := own1_of_blk (Blk.new w 5 #[.int .u8 (node : Int)]) (Nat.le_refl _) rfl rfl (by unfold maxLen; omega)
  clear h1 h2 hres
  go_enter Try.func40, Try.ntmps40
  go_wp2_with fail
  clear h1i h2i
  go_loopg [7, 8] n (fun gk v7 v8 wr => ∃ (i m : Nat) (r : Value), i + gk = n ∧ v8 = .int .i64 (i : Int) ∧ r = v7 ∧ Hid (m = (node :: (l.take i).filter fun y => y != node).length ∧ m ≤ i + 1) ∧ wr.ownsRow w.heap.size 5 1 r m ((node :: (l.take i).filter fun y => y != node).map u8v) ∧ Below w.heap.size w wr)
  case atStart => exact ⟨0, 1, _, by omega, rfl, rfl, ⟨by simp, by omega⟩, ho, bw⟩
  case round =>
    clear bw ho
    obtain ⟨i, m, r, hi, rfl, rfl, HM, ho, bw⟩ := hrel
    by_cases h4 : i < n
    · have hk4 : (i : Int) < (n : Int) := by omega
      obtain ⟨ad, ux, rfl, hadl, hu, hcell⟩ := HR.out.at_ h4
      obtain ⟨x, hx, hux⟩ : ∃ x, l[i]? = some x ∧ ux = .int .u8 (x : Int) := by
        rw [List.getElem?_map] at hu
        cases hd : l[i]? with
        | none => rw [hd] at hu; cases hu
        | some y => rw [hd] at hu; exact ⟨y, rfl, (Option.some.inj hu).symm⟩
      subst hux
      have q0 := (bw.cell (p := ad.add i) (by rw [block_of_add]; exact hadl)).trans hcell
      have htk : l.take (i + 1) = l.take i ++ [x] := by rw [List.take_add_one, hx]; rfl
      by_cases hxn : x = node
      · have hxi : ((x : Int) != (node : Int)) = false := by rw [bne_eq_false_iff_eq]; omega
        have HE : Hid ((l.take (i + 1)).filter (fun y => y != node) = (l.take i).filter fun y => y != node) := by show _ = _; rw [htk, List.filter_append]; simp [hxn]
        clear htk hu hcell hx hadl hxn
        go_wp2_with fail
        go_roundg (n - (i + 1))
        case measure => omega
        case rel => exact ⟨i + 1, m, _, by omega, by go_num, rfl, by rw [HE.out]; exact ⟨HM.out.1, by have := HM.out.2; omega⟩, by rw [HE.out]; exact ho, bw⟩
      · have hxi : ((x : Int) != (node : Int)) = true := by rw [bne_iff_ne]; omega
        have HE : Hid ((l.take (i + 1)).filter (fun y => y != node) = ((l.take i).filter fun y => y != node) ++ [x]) := by show _ = _; rw [htk, List.filter_append]; simp [hxn]
        obtain ⟨r', w2, happ, ho2, hb2⟩ := Byt.app_byte ho bw.size (by have := HM.out.2; omega) x
        have he : (node :: (l.take (i + 1)).filter (fun y => y != node)).map u8v = (node :: (l.take i).filter (fun y => y != node)).map u8v ++ [.int .u8 (x : Int)] := by rw [HE.out, ← List.cons_append, List.map_append]; rfl
        rw [← he] at ho2
        have HF := Lib.hid (And.intro ho2 (bw.trans hb2))
        have HM2 : Hid (m + 1 = (node :: (l.take (i + 1)).filter (fun y => y != node)).length ∧ m + 1 ≤ i + 1 + 1) := by
          have := HM.out
          refine ⟨?_, by omega⟩
          rw [HE.out, ← List.cons_append, List.length_append, ← this.1]
          rfl
        clear htk hu hcell hx hadl hxn ho he ho2 hb2 bw
        go_wp2_with (refine wpList_run_append (by rfl) (.tmp 31) (.tmp 36) 22 (by rfl) (by rfl) (by rfl) happ ?_)
        go_roundg (n - (i + 1))
        case measure => omega
        case rel => exact ⟨i + 1, m + 1, r', by omega, by go_num, rfl, HM2.out, HF.out.1, HF.out.2⟩
    · have hk4 : ¬ (i : Int) < (n : Int) := by omega
      obtain rfl : n = i := by omega
      rw [List.take_of_length_le (by rw [HN.out]; exact Nat.le_refl _), ← HS.out] at ho
      have hm := HM.out.1
      rw [List.take_of_length_le (by rw [HN.out]; exact Nat.le_refl _), ← HS.out] at hm
      obtain ⟨A5, c5, hv5, _, hr5⟩ := Byt.own_slice1 ho
      have HQ : Hid (RetL w A res (.returned r) wr) := ⟨A5, c5, m, by rw [hv5], hm, hr5, (fun ad he => .inr (own_from (by rw [← hv5]; exact ho) ad he)), bw⟩
      clear ho hm hv5 hr5
      go_wp2_with fail
      go_ret
      exact HQ.out
end Go.Proofs.Ytbamfnlgapchkaa.Thr
