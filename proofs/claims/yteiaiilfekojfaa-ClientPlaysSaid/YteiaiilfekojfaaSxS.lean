/- The walk Sx: texts cut and looked into. No program in sight. Conditions: what the operands hold. -/
import Derived.Test.YteiaiilfekojfaaSxM
import Derived.Test.YteiaiilfekojfaaWire
set_option linter.unusedVariables false
set_option linter.unusedSimpArgs false
namespace Go.Proofs.Yteiaiilfekojfaa.Sx
open Go.RowKit DrawInv
section
variable {P : Program} {ρ : Operand → Value} {o : Oper} {w : World} {vs : Vs}
theorem ex_sliceTl {t : TypeId} {x y : Operand} {l r : List UInt8} {k : IntKind} {n : Nat} (E : Env vs ρ) (ho : o.op = .slice t x (some y) none none) (ht : P.underlying t = some .string) (hx : opv vs x = some (.string ⟨l.toArray⟩)) (hy : opv vs y = some (.int k (n : Int))) (hn : n ≤ l.length) (hr : l.drop n = r) : (execOp ρ o).run P w = .ok (.value (.string ⟨r.toArray⟩)) w := by
  subst hr
  unfold execOp; rw [ho]
  have h := run_slice_string_l (P := P) w t ⟨l.toArray⟩ ht k (n : Int) (by omega) (by rw [Wire.size_str]; omega)
  simp only [Int.toNat_natCast, Wire.drop_str] at h
  simp only [E.ev hx, E.ev hy, Option.map_some, Option.map_none, Instr.sliceAt, Sem.run_bind, run_underlying ht, h, Result.andThen_ok, Sem.run_pure]
theorem ex_sliceTh {t : TypeId} {x y : Operand} {l r : List UInt8} {k : IntKind} {n : Nat} (E : Env vs ρ) (ho : o.op = .slice t x none (some y) none) (ht : P.underlying t = some .string) (hx : opv vs x = some (.string ⟨l.toArray⟩)) (hy : opv vs y = some (.int k (n : Int))) (hn : n ≤ l.length) (hr : l.take n = r) : (execOp ρ o).run P w = .ok (.value (.string ⟨r.toArray⟩)) w := by
  subst hr
  unfold execOp; rw [ho]
  have h := run_slice_string_h (P := P) w t ⟨l.toArray⟩ ht k (n : Int) (by omega) (by rw [Wire.size_str]; omega)
  simp only [Int.toNat_natCast, Wire.take_str] at h
  simp only [E.ev hx, E.ev hy, Option.map_some, Option.map_none, Instr.sliceAt, Sem.run_bind, run_underlying ht, h, Result.andThen_ok, Sem.run_pure]
theorem ex_indexT {t : TypeId} {x y : Operand} {l : List UInt8} {b : UInt8} {k : IntKind} {n : Nat} {z : Int} (E : Env vs ρ) (ho : o.op = .index t x y) (ht : P.underlying t = some .string) (hx : opv vs x = some (.string ⟨l.toArray⟩)) (hy : opv vs y = some (.int k (n : Int))) (hb : l[n]? = some b) (hz : (b.toNat : Int) = z) : (execOp ρ o).run P w = .ok (.value (.int .u8 z)) w := by
  subst hz
  unfold execOp; rw [ho]
  have h1 : (⟨l.toArray⟩ : ByteArray)[n]? = some b := Wire.index_str l n b hb
  simp only [E.ev hx, E.ev hy, Instr.index, asIntOf, run_underlying ht, Sem.run_bind, Sem.run_pure, Result.andThen_ok]
  simp [h1]
end
theorem own_some {w : World} {base : Nat} {e : TypeId} {size : Nat} {A : Option Addr} {n c m : Nat} {xs : List Value} (h : w.ownsRow base e size (.slice A n c) m xs) (hn : 0 < m) : ∃ g, A = some ⟨g, 0, none⟩ := by
  rcases h.2 with ⟨_, h0⟩ | ⟨g, cap, cur, ev, _⟩
  · omega
  · injection ev with e1 _ _
    exact ⟨g, e1⟩
section
variable {P : Program} {ops : Array Oper} {Q Q' : Exit → Act → World → Prop} {n : Nat} {vs : Vs} {w0 : World} {L : List Ft} {o : Oper} {rest : List Oper}
/-- A whole element of a row of one's own stored anew. -/
theorem store_row {w : World} {ρ : Operand → Value} {base e sz m c k g : Nat} {u : TypeId} {p x : Operand} {v : Value} {xs : List Value} {vs : Vs} (E : Env vs ρ) (hown : w.ownsRow base e sz (.slice (some ⟨g, 0, none⟩) m c) m xs) (ho : o.op = .store u p x) (hp : opv vs p = some (.pointer (some ((⟨g, 0, none⟩ : Addr).add (k * sz))))) (hx : opv vs x = some v) (hk : k < m) (hz : (P.info? u).map (·.size) = some sz) (hm : v.cells.toList.length = sz) (h1 : v.cells.toList.all (·.oneCell') = true) :
    ∃ w' xs', (execOp ρ o).run P w = .ok .skip w' ∧ w'.ownsRow base e sz (.slice (some ⟨g, 0, none⟩) m c) m xs' ∧ w.grownBy w' (some g) := by
  rcases hown.2 with ⟨h0, _⟩ | ⟨g', cap, cur, ev, hb, hh, hc1, hc2, hc3, hc4⟩
  · cases h0
  · injection ev with e1 _ e3
    cases e1
    subst e3
    have hB : Blk w g e cur.toList.toArray := by rw [Array.toArray_toList]; exact hh
    have hle : (k + 1) * sz ≤ c * sz := Nat.mul_le_mul_right _ (by omega)
    have hlen : cur.toList.length = c * sz := by simpa using hc3
    rw [Nat.succ_mul] at hle
    obtain ⟨w', hr, hb', hg⟩ := ex_store (P := P) (off := k * sz) (m := sz) (cs := cur.toList) E hB ho (by rw [hp, add_none, Nat.zero_add]) hx hz hm (by rw [Nat.ble_eq, hlen]; omega) h1
    have hlen2 : (putL cur.toList (k * sz) v.cells.toList).length = c * sz := by rw [putL_length, hlen]
    refine ⟨w', (putL cur.toList (k * sz) v.cells.toList).take (m * sz), hr, ⟨?_, .inr ⟨g, c, (putL cur.toList (k * sz) v.cells.toList).toArray, rfl, hb, hb', hc1, hc2, by simpa using hlen2, by simp⟩⟩, hg⟩
    rw [List.length_take, hlen2]
    exact Nat.min_eq_left (Nat.mul_le_mul_right _ hc1)
theorem SxL.storeRow {i base e sz m c k g : Nat} {u : TypeId} {p x : Operand} {v : Value} {xs : List Value} {ex : List Nat} (hon : GOn ops vs o.guard) (hd : o.dst = none) (ho : o.op = .store u p x) (hp : opv vs p = some (.pointer (some ((⟨g, 0, none⟩ : Addr).add (k * sz))))) (hx : opv vs x = some v)
    (hL : nth L i = some (rowX ex base e sz (.slice (some ⟨g, 0, none⟩) m c) m xs)) (hk : k < m) (hz : (P.info? u).map (·.size) = some sz) (hm : v.cells.toList.length = sz) (h1 : v.cells.toList.all (·.oneCell') = true)
    (h : ∀ xs', SxL P ops Q rest n vs w0 (putF L i (rowX ex base e sz (.slice (some ⟨g, 0, none⟩) m c) m xs'))) : SxL P ops Q (o :: rest) n vs w0 L := fun a w K H => by
  refine on_list (hon.on K.env) ?_
  unfold Oper.wp
  obtain ⟨w', xs', hr, hown', hg⟩ := store_row (P := P) K.env (H.get hL) ho hp hx hk hz hm h1
  rw [hr]
  show wpList P ops Q rest (a.put o.dst _) _
  rw [hd]
  have hin : g ∈ (rowX ex base e sz (.slice (some ⟨g, 0, none⟩) m c) m xs).fp := by simp [rowX, Value.ownBlock]
  refine h xs' _ _ K (H.chg hL _ (Outs.of_grown hg hin) (rowX_loc _ _ _ _ _ _ _) (fun b hb => ⟨Nat.lt_of_lt_of_le ((H.ok _ (nth_mem hL)).2.1 b hb) hg.size, .inl hb⟩) (fun b hb => .inl hb) hown')
end
theorem ex_bneq {P : Program} {ρ : Operand → Value} {o : Oper} {w : World} {vs : Vs} {T U : TypeId} {x y : Operand} {a b t : Bool} (E : Env vs ρ) (ho : o.op = .binOp .neq T x y U) (hT : P.underlying T = some .bool) (hx : opv vs x = some (.bool a)) (hy : opv vs y = some (.bool b)) (ht : (a != b) = t) : (execOp ρ o).run P w = .ok (.value (.bool t)) w := by
  subst ht
  unfold execOp; rw [ho]
  simp only [E.ev hx, E.ev hy]
  have h : (Op.equal T (.bool a) (.bool b)).run P w = .ok (a == b) w := by
    unfold Op.equal
    rw [show Op.maxDepth = 9999 + 1 from rfl]
    unfold Op.equalIn
    simp only [run_underlying hT, Sem.run_bind, Result.andThen_ok, Sem.run_pure]
  have h2 : (a != b) = !(a == b) := rfl
  simp only [eqGuard, Sem.run_bind, Sem.run_pure, Result.andThen_ok, ite_self, binOp, h, h2]
theorem rows_cell {α : Type} {w : World} {g t sz : Nat} {cells : α → List Value} {x : α} (h : Blk w g t (cells x).toArray) : Rows w (some ⟨g, 0, none⟩) sz cells [x] := by
  intro k y hk
  have hk0 : k = 0 := by have := (List.getElem?_eq_some_iff.1 hk).1; simp at this; omega
  subst hk0
  obtain rfl : x = y := by simpa using hk
  refine ⟨_, rfl, Blk.lt h, fun j v hj => ?_⟩
  rw [Nat.zero_mul, Nat.zero_add, add_none, Nat.zero_add, h.cell j]
  simpa using hj
end Go.Proofs.Yteiaiilfekojfaa.Sx
