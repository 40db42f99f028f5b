/- Helpers of the law ElectPlays: great; a row of votes spoilt from the front; a round under foreign stores. Conditions: the lists can be read. -/
import Derived.Test.YtbamfnlgapchkaaElRB
namespace Go.Proofs.Ytbamfnlgapchkaa.Ele
open Go Go.RowKit Bal Mem DrawInv

def greatB (L : List Td) : Bool := decide (20 < L.length) || L.any fun x => decide (60 < x.V.length)
theorem RoS.out {B g mg : Nat} {q : Ro} {w w' : World} {S : List Nat} (h : RoS B g mg q w) (o : Outs S w w') (h1 : g ∉ S) (h2 : mg ∉ S) : RoS B g mg q w' := ⟨o.blk h.hg h1, h.hm.keep (o.block mg h.hm.lt h2), h.hB, h.hM, h.lw⟩
theorem RefR.out {w0 w w' : World} {b : B} {L : List Td} {A : Option Addr} {cp : Nat} {S : List Nat} (h : RefR w0 w b L A cp) (o : Outs S w w') (hA : ∀ ad, A = some ad → ad.block ∉ S) : RefR w0 w' b L A cp := ⟨rows_out h.rows o hA, h.fits, h.len, h.flat⟩
theorem exec_al {ρ : Operand → Value} {w : World} {o : Oper} (ho : o.op = .alloc 93) : (execOp ρ o).run Try.prog w = .ok (.value (.pointer (some ⟨w.heap.size, 0, none⟩))) (w.alloc (.cells #[.int .u64 0, .int .u8 0, .slice none 0 0] 93)) := by
  unfold execOp
  simp only [ho]
  go_simp
/-- Votes in a row of their own, from the k-th on as they were. -/
def Tail (W : World) (a : Addr) (V : List Vt) (k : Nat) : Prop := ∃ g cs, a = ⟨g, 0, none⟩ ∧ Blk W g 73 cs ∧ V.length * 4 ≤ cs.size ∧ ∀ (j : Nat) (y : Vt), k ≤ j → V[j]? = some y → ∀ (t : Nat) (v : Value), (vtL y)[t]? = some v → cs[j * 4 + t]? = some v
theorem Tail.out {W W' : World} {a : Addr} {V : List Vt} {k : Nat} {S : List Nat} (h : Tail W a V k) (o : Outs S W W') (hn : a.block ∉ S) : Tail W' a V k := by
  obtain ⟨g, cs, rfl, hb, hs, hc⟩ := h
  exact ⟨g, cs, rfl, o.blk hb hn, hs, hc⟩
theorem Tail.at_ {W : World} {a : Addr} {V : List Vt} {k : Nat} (h : Tail W a V k) {y : Vt} (hy : V[k]? = some y) : a.block < W.heap.size ∧ W.cell? (a.add (k * 4)) = some (.int .u64 (y.slot : Int)) ∧ W.cell? { block := (a.add (k * 4)).block, off := (a.add (k * 4)).off + 1 } = some (.int .u64 (y.n : Int)) ∧ W.cell? { block := (a.add (k * 4)).block, off := (a.add (k * 4)).off + 2 } = some (.int .u8 (y.r : Int)) ∧ W.cell? { block := (a.add (k * 4)).block, off := (a.add (k * 4)).off + 3 } = some (.string ⟨y.val.toArray⟩) := by
  obtain ⟨g, cs, rfl, hb, hs, hc⟩ := h
  have h0 := hc k y (Nat.le_refl _) hy
  rw [Addr.add_lit]
  refine ⟨hb.lt, ?_, ?_, ?_, ?_⟩
  · rw [hb.cell, Nat.zero_add]; exact h0 0 _ rfl
  · show W.cell? ⟨g, 0 + k * 4 + 1, none⟩ = _
    rw [hb.cell, Nat.zero_add]; exact h0 1 _ rfl
  · show W.cell? ⟨g, 0 + k * 4 + 2, none⟩ = _
    rw [hb.cell, Nat.zero_add]; exact h0 2 _ rfl
  · show W.cell? ⟨g, 0 + k * 4 + 3, none⟩ = _
    rw [hb.cell, Nat.zero_add]; exact h0 3 _ rfl
theorem putA_size : ∀ (vs : List Value) (cs : Array Value) (o : Nat), (putA cs o vs).size = cs.size
  | [], _, _ => rfl
  | v :: vs, cs, o => by rw [putA, putA_size]; simp
theorem putA_far : ∀ (vs : List Value) (cs : Array Value) (o i : Nat), o + vs.length ≤ i → (putA cs o vs)[i]? = cs[i]?
  | [], _, _, _, _ => rfl
  | v :: vs, cs, o, i, h => by
    rw [putA, putA_far vs _ (o + 1) i (by simp at h; omega), Array.getElem?_setIfInBounds_ne (by simp at h; omega)]
def spoilt : Array Value := #[.int .u64 1, .int .u64 99, .int .u8 0, .string ⟨#[115, 112, 111, 105, 108, 116]⟩]
theorem Tail.put {W : World} {a : Addr} {V : List Vt} {k : Nat} (h : Tail W a V k) (hk : k < V.length) : ∃ W', (Instr.storeAt 73 (.pointer (some (a.add (k * 4)))) (.agg spoilt)).run Try.prog W = .ok () W' ∧ Tail W' a V (k + 1) ∧ Outs [a.block] W W' := by
  obtain ⟨g, cs, rfl, hb, hs, hc⟩ := h
  rw [Addr.add_lit, Nat.zero_add]
  refine ⟨_, blk_put hb (k * 4) spoilt (by show k * 4 + 4 ≤ _; omega) (by kernel_rfl) rfl, ⟨g, _, rfl, hb.setCells spoilt.toList (k * 4), by rw [putA_size]; exact hs, fun j y hj hy t v hv => ?_⟩, Outs.of_grown (grown_setCells _ _ (World.grownBy.refl _ _)) (by simp)⟩
  rw [putA_far _ _ _ _ (by show k * 4 + 4 ≤ _; omega)]
  exact hc j y (by omega) hy t v hv
theorem Tail.of_own {W : World} {B n c : Nat} {a : Addr} {V : List Vt} (h : W.ownsRow B 73 4 (.slice (some a) n c) n (V.flatMap vtL)) (hn : V.length = n) : Tail W a V 0 ∧ B ≤ a.block := by
  subst hn
  have hr := own_rows_at (l := V) vtL_len (by omega) h
  obtain ⟨A', c', e, _, hrow, hB⟩ := hr
  obtain ⟨rfl, -, rfl⟩ := Value.slice.inj e
  rcases h.2 with ⟨e, _⟩ | ⟨g, cap, cur, e, hg, hblk, hcap, _, hsz, htk⟩
  · cases e
  · obtain ⟨h1, -, rfl⟩ := Value.slice.inj e
    obtain rfl := Option.some.inj h1
    have hb : Blk W g 73 cur := hblk
    refine ⟨⟨g, cur, rfl, hb, by rw [hsz]; omega, fun j y _ hy t v hv => ?_⟩, hg⟩
    obtain ⟨ad, e, _, hc⟩ := hrow j y hy
    obtain rfl := Option.some.inj e
    have := hc t v hv
    rw [Addr.add_lit, hb.cell, Nat.zero_add] at this
    exact this
set_option linter.unusedVariables false in
set_option maxHeartbeats 2000000 in
theorem great_any (L : List Td) (n : Nat) (hn : L.length = n) (hn63 : n ≤ 9223372036854775807) (A : Option Addr) (c : Nat) (w : World) (hr : Rows w A 3 tdL L) (hv63 : ∀ x ∈ L, x.V.length ≤ 9223372036854775807) : Calls Try.prog 58 #[.slice A n c] w fun e w' => e = .returned (.bool (greatB L)) ∧ w = w' := by
  have HR := Lib.hid (And.intro hr (And.intro hn hv63))
  by_cases h1 : 20 < n
  · have h1i : (20 : Int) < (n : Int) := by omega
    have HQ : Hid (greatB L = true) := by show _ = _; unfold greatB; rw [hn, decide_eq_true h1]; rfl
    clear hr hn hv63 h1
    go_enter Try.func58, Try.ntmps58
    go_wp2_with fail
    go_ret
    exact ⟨by rw [HQ.out]; rfl, rfl⟩
  have h1i : ¬ (20 : Int) < (n : Int) := by omega
  have HQ : Hid (greatB L = L.any fun x => decide (60 < x.V.length)) := by show _ = _; unfold greatB; rw [hn, decide_eq_false h1]; rfl
  have HN : Hid (n ≤ 20) := by show _ ≤ _; omega
  clear hr hn hv63 h1
  go_enter Try.func58, Try.ntmps58
  go_wp2_with fail
  clear h1i
  go_loopg [3] n (fun gk v3 wr => ∃ i : Nat, i + gk = n ∧ v3 = .int .i64 (i : Int) ∧ Hid (((L.take i).any fun x => decide (60 < x.V.length)) = false) ∧ wr = w)
  case atStart => exact ⟨0, by omega, rfl, rfl, rfl⟩
  case round =>
    obtain ⟨i, hi, rfl, HT, rfl⟩ := hrel
    by_cases h4 : i < n
    · have hk4 : (i : Int) < (n : Int) := by omega
      obtain ⟨x, hx⟩ : ∃ x, L[i]? = some x := ⟨_, List.getElem?_eq_getElem (by rw [HR.out.2.1]; exact h4)⟩
      obtain ⟨ad, rfl, hcs⟩ := td_at HR.out.1 hx
      have c2 := (hcs _ (Below.refl _ _)).2.2
      have hi20 : (i : Int) < 20 := by have := HN.out; omega
      have HI := Lib.hid hi
      by_cases h60 : 60 < x.V.length
      · have h60i : (60 : Int) < (x.V.length : Int) := by omega
        have HG : Hid (greatB L = true) := by
          show _ = _
          rw [HQ.out, List.any_eq_true]
          exact ⟨x, List.mem_of_getElem? hx, decide_eq_true h60⟩
        generalize x.V.length = vn at *
        clear hcs hx h60 hi
        go_wp2_with fail
        go_ret
        exact ⟨by rw [HG.out]; rfl, rfl⟩
      · have h60i : ¬ (60 : Int) < (x.V.length : Int) := by omega
        have HT2 : Hid (((L.take (i + 1)).any fun x => decide (60 < x.V.length)) = false) := by
          show _ = _
          rw [List.take_add_one, hx, List.any_append, HT.out]
          simp only [Option.toList, List.any_cons, List.any_nil, decide_eq_false h60]
          rfl
        generalize x.V.length = vn at *
        clear hcs hx h60 hi
        go_wp2_with fail
        go_roundg (n - (i + 1))
        case measure => have := HI.out; omega
        case rel => exact ⟨i + 1, by have := HI.out; omega, by go_num, HT2.out, rfl⟩
    · have hk4 : ¬ (i : Int) < (n : Int) := by omega
      have HG : Hid (greatB L = false) := by
        have h := HT.out
        rw [List.take_of_length_le (by rw [HR.out.2.1]; omega)] at h
        show _ = _
        rw [HQ.out]; exact h
      go_wp2_with fail
      go_ret
      exact ⟨by rw [HG.out]; rfl, rfl⟩
theorem great_no {L : List Td} (h : greatB L = false) : L.length ≤ 20 ∧ ∀ x ∈ L, x.V.length ≤ 60 := by
  unfold greatB at h
  obtain ⟨h1, h2⟩ := (Bool.or_eq_false_iff).1 h
  refine ⟨by have := of_decide_eq_false h1; omega, fun x hx => ?_⟩
  have := List.any_eq_false.1 h2 x hx
  simp at this
  omega
end Go.Proofs.Ytbamfnlgapchkaa.Ele
