/- The walk Sx: numbers multiplied, divided, shifted; a text's bytes in memory of their own; slices made. No program in sight. Conditions: what the operands hold. -/
import Derived.Test.YteiaiilfekojfaaSxS
import Derived.Test.YteiaiilfekojfaaWireConv
import Derived.Lib.ConvBytes
import Derived.Laws.OwnMore
set_option linter.unusedVariables false
set_option linter.unusedSimpArgs false
namespace Go.Proofs.Yteiaiilfekojfaa.Sx
open Go.RowKit DrawInv Wire
section
variable {P : Program} {ρ : Operand → Value} {o : Oper} {w : World} {vs : Vs}
theorem ex_mul {T U : TypeId} {x y : Operand} {k : IntKind} {a b z : Int} (E : Env vs ρ) (ho : o.op = .binOp .mul T x y U) (hx : opv vs x = some (.int k a)) (hy : opv vs y = some (.int k b)) (hz : k.wrap (a * b) = z) : (execOp ρ o).run P w = .ok (.value (.int k z)) w := by
  unfold execOp; rw [ho]; subst hz
  simp [E.ev hx, E.ev hy, eqGuard, binOp, Op.intArith]
theorem ex_quo {T U : TypeId} {x y : Operand} {k : IntKind} {a b z : Int} (E : Env vs ρ) (ho : o.op = .binOp .quo T x y U) (hx : opv vs x = some (.int k a)) (hy : opv vs y = some (.int k b)) (h0 : b ≠ 0) (hz : k.wrap (a.tdiv b) = z) : (execOp ρ o).run P w = .ok (.value (.int k z)) w := by
  unfold execOp; rw [ho]; subst hz
  simp [E.ev hx, E.ev hy, eqGuard, binOp, Op.intDiv, h0]
theorem ex_rem {T U : TypeId} {x y : Operand} {k : IntKind} {a b z : Int} (E : Env vs ρ) (ho : o.op = .binOp .rem T x y U) (hx : opv vs x = some (.int k a)) (hy : opv vs y = some (.int k b)) (h0 : b ≠ 0) (hz : a.tmod b = z) : (execOp ρ o).run P w = .ok (.value (.int k z)) w := by
  unfold execOp; rw [ho]; subst hz
  simp [E.ev hx, E.ev hy, eqGuard, binOp, Op.intDiv, h0]
theorem ex_shl {T U : TypeId} {x y : Operand} {k k' : IntKind} {a z : Int} {n : Nat} (E : Env vs ρ) (ho : o.op = .binOp .shl T x y U) (hx : opv vs x = some (.int k a)) (hy : opv vs y = some (.int k' (n : Int))) (hz : k.wrap (a * 2 ^ (min n k.bits)) = z) : (execOp ρ o).run P w = .ok (.value (.int k z)) w := by
  unfold execOp; rw [ho]; subst hz
  have h0 : ¬ ((n : Int) < 0) := by omega
  simp [E.ev hx, E.ev hy, eqGuard, binOp, Op.shift, h0]
theorem ex_xor {T U : TypeId} {x y : Operand} {k : IntKind} {a b z : Int} (E : Env vs ρ) (ho : o.op = .binOp .xor T x y U) (hx : opv vs x = some (.int k a)) (hy : opv vs y = some (.int k b)) (hz : k.wrap ((BitVec.ofInt k.bits a ^^^ BitVec.ofInt k.bits b).toNat) = z) : (execOp ρ o).run P w = .ok (.value (.int k z)) w := by
  unfold execOp; rw [ho]; subst hz
  simp [E.ev hx, E.ev hy, eqGuard, binOp, Op.intBits]
/-- Cells in a block of their own that may be written; what lies behind them, and its mark, is not told. -/
def RowC (w : World) (g : Nat) (cs : List Value) : Prop := ∃ full e m, w.heap[g]? = some (.cells full e m) ∧ ∀ j v, cs[j]? = some v → full[j]? = some v ∧ (j < m.1 ∨ m.2 ≤ j)
def rowC (g : Nat) (cs : List Value) : Ft := ⟨[g], fun w => RowC w g cs⟩
theorem rowC_loc (g : Nat) (cs : List Value) : (rowC g cs).Loc := fun w w' h ⟨full, e, m, h1, h2⟩ => ⟨full, e, m, (h g (List.mem_singleton.2 rfl)).trans h1, h2⟩
theorem RowC.cell {g : Nat} {cs : List Value} (h : RowC w g cs) {j : Nat} {v : Value} (hv : cs[j]? = some v) : w.cell? ⟨g, j, none⟩ = some v := by
  obtain ⟨full, e, m, h1, h2⟩ := h
  unfold World.cell?
  rw [h1]
  exact (h2 j v hv).1
theorem RowC.frozen {g : Nat} {cs : List Value} (h : RowC w g cs) {j : Nat} {v : Value} (hv : cs[j]? = some v) : w.frozen? ⟨g, j, none⟩ = false := by
  obtain ⟨full, e, ⟨m1, m2⟩, h1, h2⟩ := h
  unfold World.frozen?
  rw [h1]
  have := (h2 j v hv).2
  simp
  omega
theorem RowC.lt {g : Nat} {cs : List Value} (h : RowC w g cs) : g < w.heap.size := by obtain ⟨full, e, m, h1, _⟩ := h; exact (Array.getElem?_eq_some_iff.1 h1).1
theorem RowC.reads {g n : Nat} {cs : List Value} (h : RowC w g cs) (hn : cs.length = n) : Reads w w.heap.size 1 (some ⟨g, 0, none⟩) n cs :=
  ⟨by rw [hn, Nat.mul_one], fun _ => ⟨_, rfl, h.lt, fun j u hu => by rw [add_none, Nat.zero_add]; exact h.cell hu⟩⟩
theorem RowC.at {g : Nat} {cs : List Value} (h : RowC w g cs) {k : Nat} {v : Value} (hv : cs[k]? = some v) : RowAt w ((⟨g, 0, none⟩ : Addr).add (k * 1)) [v] := fun j u hu => by
  have hj : j = 0 := by have := (List.getElem?_eq_some_iff.1 hu).1; simp at this; omega
  subst hj
  obtain rfl : v = u := by simpa using hu
  rw [add_none, add_none, Nat.zero_add, Nat.mul_one, Nat.add_zero]
  exact h.cell hv
theorem run_storeC {t : TypeId} {g k : Nat} {cs : List Value} {v : Value} (h : RowC w g cs) (hk : k < cs.length) (hz : (P.info? t).map (·.size) = some 1) (h1 : v.cells = #[v]) (ho : v.oneCell' = true) :
    (Instr.storeAt t (.pointer (some ⟨g, k, none⟩)) v).run P w = .ok () (w.setCell ⟨g, k, none⟩ v) := by
  have h3 := h.cell (j := k) (v := cs[k]) (List.getElem?_eq_getElem hk)
  have h4 := h.frozen (j := k) (v := cs[k]) (List.getElem?_eq_getElem hk)
  cases hi : P.info? t with
  | none => rw [hi] at hz; cases hz
  | some i =>
    rw [hi] at hz
    have hs : i.size = 1 := Option.some.inj hz
    have ha : (⟨g, k, none⟩ : Addr).add 0 = ⟨g, k, none⟩ := rfl
    have hst : (store ⟨g, k, none⟩ v).run P w = .ok () (w.setCell ⟨g, k, none⟩ v) := by
      rw [run_store P w ⟨g, k, none⟩ v _ ho, h3, h4]
      rfl
    simp [Instr.storeAt, Instr.sureAddr, storeVar, sizeOf, typeInfo, hi, hs, h1, storeCells, ha, hst]
theorem RowC.set {g k : Nat} {cs : List Value} (h : RowC w g cs) (v : Value) : RowC (w.setCell ⟨g, k, none⟩ v) g (cs.set k v) := by
  obtain ⟨full, e, m, h1, h2⟩ := h
  refine ⟨full.setIfInBounds k v, e, m, ?_, fun j u hu => ?_⟩
  · unfold World.setCell
    simp [Array.getElem?_modify, h1]
  · rw [List.getElem?_set] at hu
    by_cases hk : k = j
    · subst hk
      by_cases hl : k < cs.length
      · rw [if_pos rfl, if_pos hl] at hu
        obtain ⟨h3, h4⟩ := h2 k cs[k] (List.getElem?_eq_getElem hl)
        have hlt : k < full.size := (Array.getElem?_eq_some_iff.1 h3).1
        rw [← hu]
        exact ⟨by rw [Array.getElem?_setIfInBounds_self_of_lt hlt], h4⟩
      · rw [if_pos rfl, if_neg hl] at hu; cases hu
    · rw [if_neg hk] at hu
      obtain ⟨h3, h4⟩ := h2 j u hu
      exact ⟨by rw [Array.getElem?_setIfInBounds_ne hk]; exact h3, h4⟩
/-- A text's bytes laid anew. -/
theorem ex_toBytes {src dst e : TypeId} {x : Operand} {l : List UInt8} {d : TypeDesc} {vs : Vs} (E : Env vs ρ) (ho : o.op = .convert src dst x) (hs : P.underlying src = some d) (ht : P.underlying dst = some (.slice e)) (he : P.underlying e = some (.int .u8)) (hx : opv vs x = some (.string ⟨l.toArray⟩)) :
    ∃ c w', (execOp ρ o).run P w = .ok (.value (.slice (some ⟨w.heap.size, 0, none⟩) l.length c)) w' ∧ l.length ≤ c ∧ Below w.heap.size w w' ∧ RowC w' w.heap.size (bv l) := by
  have hl : (⟨l.toArray⟩ : ByteArray).size = l.length := by simp [ByteArray.size]
  refine ⟨grownCap w (⟨l.toArray⟩ : ByteArray).size 0 e, Lib.bytesWorld w e ⟨l.toArray⟩, ?_, ?_, ?_, ?_⟩
  · unfold execOp; rw [ho]
    simp only [E.ev hx, Sem.run_bind, Lib.run_convert_string_bytes (P := P) w src dst e ⟨l.toArray⟩ hs ht he, Result.andThen_ok, hl]
    rfl
  · rw [← hl]; exact grownCap_ge w _ 0 e
  · exact ⟨rfl, rfl, rfl, by rw [Lib.bytesWorld_size]; omega, fun k hk => Lib.bytesWorld_at_old w e _ k hk⟩
  · refine ⟨_, e, _, Lib.bytesWorld_at_new w e _, fun j v hv => ?_⟩
    have hj : j < l.length := by have := (List.getElem?_eq_some_iff.1 hv).1; rwa [bv_length] at this
    have hsz : l.length ≤ (Lib.bytesCells w e ⟨l.toArray⟩).size := by
      unfold Lib.bytesCells
      simp
    refine ⟨?_, .inl (by show j < (Lib.bytesCells w e ⟨l.toArray⟩).size; omega)⟩
    unfold Lib.bytesCells
    rw [Array.getElem?_append_left (by simpa using hj)]
    rw [← hv]
    have hf : (fun b : UInt8 => Value.int .u8 (b.toNat : Int)) = byteV := rfl
    simp [bv, hf]
theorem ex_fromBytes {src dst e : TypeId} {x : Operand} {g n c : Nat} {l : List UInt8} {vs : Vs} (E : Env vs ρ) (h : RowC w g (bv l)) (ho : o.op = .convert src dst x) (hs : P.underlying src = some (.slice e)) (he : P.underlying e = some (.int .u8)) (hd : P.underlying dst = some .string) (hx : opv vs x = some (.slice (some ⟨g, 0, none⟩) n c)) (hn : l.length = n) : (execOp ρ o).run P w = .ok (.value (.string ⟨l.toArray⟩)) w := by
  unfold execOp; rw [ho]
  simp only [E.ev hx, Sem.run_bind]
  rw [conv_str hs he hd c (h.reads (by rw [bv_length, hn]))]
  rfl
/-- A slice made. -/
theorem ex_makeSlice {t e : TypeId} {x y : Operand} {k k' : IntKind} {z : Int} {n b : Nat} {v : Value} {vs : Vs} (E : Env vs ρ) (ho : o.op = .makeSlice t x y) (ht : P.underlying t = some (.slice e)) (hi : (P.info? e).map (fun i => (i.zero, i.size, i.bytes)) = some (some v, 1, b)) (hx : opv vs x = some (.int k z)) (hy : opv vs y = some (.int k' z)) (hz : z = (n : Int)) (hsm : n * 1 ≤ 16777216) (hb : b * n ≤ 281474976710656) (hm : n ≤ 9223372036854775807) (h1 : v.cells = #[v]) :
    ∃ w', (execOp ρ o).run P w = .ok (.value (.slice (some ⟨w.heap.size, 0, none⟩) n n)) w' ∧ w'.ownsRow w.heap.size e 1 (.slice (some ⟨w.heap.size, 0, none⟩) n n) n (List.replicate n v) ∧ Below w.heap.size w w' := by
  subst hz
  obtain ⟨i, h2, h3, h4, h5⟩ := info_parts hi
  obtain ⟨w', hr, hown, hg⟩ := run_makeSlice_full (P := P) w w.heap.size t e i v 1 ht h2 h3 h4 k k' n hsm (by rw [h5]; exact hb) (by unfold maxLen; omega) (Nat.le_refl _)
  refine ⟨w', ?_, ?_, ⟨hg.os, hg.tape, hg.output, hg.size, fun k hk => hg.block k hk (by simp)⟩⟩
  · unfold execOp; rw [ho]
    simp only [E.ev hx, E.ev hy, Sem.run_bind, hr, Result.andThen_ok]
    rfl
  · have e1 : (madeCells v.cells (n * 1)).toList = List.replicate n v := by
      rw [h1]
      unfold madeCells
      refine List.ext_getElem (by simp) fun j hj hj2 => ?_
      simp [Nat.mod_one]
    rw [e1] at hown
    exact hown
end
section
variable {P : Program} {ops : Array Oper} {Q Q' : Exit → Act → World → Prop} {n : Nat} {vs : Vs} {w0 : World} {L : List Ft} {o : Oper} {rest : List Oper} {S : World → Prop} {fuel : Nat} {listed : Array Bool}
/-- An operation that tells a value and turns what is known. -/
theorem SxL.newG {σ : Type} {d : Nat} (v : σ → Value) (F : σ → Prop) (L' : σ → List Ft) (hon : GOn ops vs o.guard) (hd : o.dst = some d) (hdn : Nat.blt d n = true)
    (hr : ∀ ρ w, Env vs ρ → Hp w0 L w → ∃ s w', (execOp ρ o).run P w = .ok (.value (v s)) w' ∧ F s ∧ Hp w0 (L' s) w')
    (h : ∀ s, F s → SxL P ops Q rest n ((d, v s) :: vs) w0 (L' s)) : SxL P ops Q (o :: rest) n vs w0 L := fun a w K H => by
  refine on_list (hon.on K.env) ?_
  unfold Oper.wp
  obtain ⟨s, w', hr, hF, H'⟩ := hr a.eval w K.env H
  rw [hr]
  show wpList P ops Q rest (a.put o.dst _) _
  rw [hd]
  exact h s hF _ _ (K.put hdn _) H'
theorem SxL.skipG (L' : List Ft) (hon : GOn ops vs o.guard) (hd : o.dst = none) (hr : ∀ ρ w, Env vs ρ → Hp w0 L w → ∃ w', (execOp ρ o).run P w = .ok .skip w' ∧ Hp w0 L' w') (h : SxL P ops Q rest n vs w0 L') : SxL P ops Q (o :: rest) n vs w0 L := fun a w K H => by
  refine on_list (hon.on K.env) ?_
  unfold Oper.wp
  obtain ⟨w', hr, H'⟩ := hr a.eval w K.env H
  rw [hr]
  show wpList P ops Q rest (a.put o.dst _) _
  rw [hd]
  exact h _ _ K H'
theorem SxO.skipG {i : Nat} {o : Oper} (L' : List Ft) (hi : ops[i]? = some o) (hon : GOn ops vs o.guard) (hd : o.dst = none) (hr : ∀ ρ w, Env vs ρ → Hp w0 L w → ∃ w', (execOp ρ o).run P w = .ok .skip w' ∧ Hp w0 L' w') (hS : ∀ w, Hp w0 L' w → S w)
    (h : SxA P ops Q S fuel (listed.setIfInBounds i true) n vs w0 L') : SxO P ops Q S fuel listed i n vs w0 L := fun a w K H _ => by
  refine op_on hi (hon.on K.env) ?_
  unfold Oper.wp
  obtain ⟨w', hr, H'⟩ := hr a.eval w K.env H
  rw [hr]
  show S _ ∧ wpAnyH _ _ _ _ _ _ _ (a.put o.dst _) _
  rw [hd]
  exact ⟨hS _ H', h _ _ K H' (hS _ H')⟩
/-- A store into a known block, what it holds then told plainly. -/
theorem putL_mid : ∀ (l pre rest : List Value), rest.length = l.length → putL (pre ++ rest) pre.length l = pre ++ l
  | [], pre, rest, h => by
    obtain rfl : rest = [] := List.eq_nil_of_length_eq_zero (by simpa using h)
    rfl
  | v :: l, pre, rest, h => by
    cases rest with
    | nil => cases h
    | cons r rest =>
      unfold putL
      have e : (pre ++ r :: rest).set pre.length v = (pre ++ [v]) ++ rest := by simp [List.set_append_right]
      have ih := putL_mid l (pre ++ [v]) rest (by simpa using h)
      rw [List.length_append, List.length_singleton] at ih
      rw [e, ih]
      simp
theorem putL_all (l cs : List Value) (h : cs.length = l.length) : putL cs 0 l = l := putL_mid l [] cs h
theorem SxL.storeX {i g t m off : Nat} {u : TypeId} {cs : List Value} (cs' : List Value) {v : Value} {p x : Operand} (hon : GOn ops vs o.guard) (hd : o.dst = none) (ho : o.op = .store u p x) (hp : opv vs p = some (.pointer (some ⟨g, off, none⟩))) (hx : opv vs x = some v) (hi : nth L i = some (cell g t cs)) (hz : (P.info? u).map (·.size) = some m) (hm : v.cells.toList.length = m) (hl : Nat.ble (off + m) cs.length = true) (h1 : v.cells.toList.all (·.oneCell') = true) (hcs : putL cs off v.cells.toList = cs')
    (h : SxL P ops Q rest n vs w0 (putF L i (cell g t cs'))) : SxL P ops Q (o :: rest) n vs w0 L := by
  subst hcs
  exact SxL.store hon hd ho hp hx hi hz hm hl h1 h
theorem SxO.storeX {i j g t m off : Nat} {o : Oper} {u : TypeId} {cs : List Value} (cs' : List Value) {v : Value} {p x : Operand} (hi : ops[i]? = some o) (hon : GOn ops vs o.guard) (hd : o.dst = none) (ho : o.op = .store u p x) (hp : opv vs p = some (.pointer (some ⟨g, off, none⟩))) (hx : opv vs x = some v) (hj : nth L j = some (cell g t cs)) (hz : (P.info? u).map (·.size) = some m) (hm : v.cells.toList.length = m) (hl : Nat.ble (off + m) cs.length = true) (h1 : v.cells.toList.all (·.oneCell') = true) (hcs : putL cs off v.cells.toList = cs')
    (hS : ∀ w, Hp w0 (putF L j (cell g t cs')) w → S w) (h : SxA P ops Q S fuel (listed.setIfInBounds i true) n vs w0 (putF L j (cell g t cs'))) : SxO P ops Q S fuel listed i n vs w0 L := by
  subst hcs
  exact SxO.store hi hon hd ho hp hx hj hz hm hl h1 hS h
theorem SxL.toBytes {d : Nat} {src dst e : TypeId} {x : Operand} {l : List UInt8} {td : TypeDesc} (hon : GOn ops vs o.guard) (hd : o.dst = some d) (hdn : Nat.blt d n = true) (ho : o.op = .convert src dst x) (hs : P.underlying src = some td) (ht : P.underlying dst = some (.slice e)) (he : P.underlying e = some (.int .u8)) (hx : opv vs x = some (.string ⟨l.toArray⟩))
    (h : ∀ g c, w0.heap.size ≤ g → l.length ≤ c → SxL P ops Q rest n ((d, .slice (some ⟨g, 0, none⟩) l.length c) :: vs) w0 (rowC g (bv l) :: L)) : SxL P ops Q (o :: rest) n vs w0 L :=
  SxL.newG (σ := Nat × Nat) (fun s => .slice (some ⟨s.1, 0, none⟩) l.length s.2) (fun s => w0.heap.size ≤ s.1 ∧ l.length ≤ s.2) (fun s => rowC s.1 (bv l) :: L) hon hd hdn (fun ρ w E H => by
    obtain ⟨c, w', hr, hc, hb, hrow⟩ := ex_toBytes (P := P) (w := w) E ho hs ht he hx
    refine ⟨(w.heap.size, c), w', hr, ⟨H.os.size, hc⟩, H.add hb _ (rowC_loc _ _) (fun g hg => ?_) hrow⟩
    obtain rfl := List.mem_singleton.1 hg
    exact ⟨hrow.lt, Nat.le_refl _⟩) fun s hF => h s.1 s.2 hF.1 hF.2
/-- A cell of such a row stored. -/
theorem Hp.storeC {w : World} {ρ : Operand → Value} {i g k : Nat} {t : TypeId} {p x : Operand} {cs : List Value} {v : Value} (E : Env vs ρ) (H : Hp w0 L w) (ho : o.op = .store t p x) (hp : opv vs p = some (.pointer (some ((⟨g, 0, none⟩ : Addr).add (k * 1))))) (hx : opv vs x = some v) (hi : nth L i = some (rowC g cs)) (hk : k < cs.length) (hz : (P.info? t).map (·.size) = some 1) (h1 : v.cells = #[v]) (h2 : v.oneCell' = true) :
    ∃ w', (execOp ρ o).run P w = .ok .skip w' ∧ Hp w0 (putF L i (rowC g (cs.set k v))) w' := by
  have hrow : RowC w g cs := H.get hi
  refine ⟨w.setCell ⟨g, k, none⟩ v, exec_store p x ho (E.ev hp) (E.ev hx) ?_, ?_⟩
  · rw [add_none, Nat.zero_add, Nat.mul_one]
    exact run_storeC hrow hk hz h1 h2
  · have hg : w.grownBy (w.setCell ⟨g, k, none⟩ v) (some g) := only_setCell (World.grownBy.refl _ _) (p := ⟨g, k, none⟩) (.inl rfl) v
    have hrow' := hrow.set (k := k) v
    refine H.chg hi _ (Outs.of_grown hg (List.mem_singleton.2 rfl)) (rowC_loc _ _) (fun g' hg' => ?_) (fun g' hg' => .inl hg') hrow'
    obtain rfl := List.mem_singleton.1 hg'
    exact ⟨hrow'.lt, .inl (List.mem_singleton.2 rfl)⟩
/-- A slice made: a row of one's own. -/
theorem SxL.make {d b m : Nat} {t e : TypeId} {x y : Operand} {k k' : IntKind} {z : Int} {v : Value} (hon : GOn ops vs o.guard) (hd : o.dst = some d) (hdn : Nat.blt d n = true) (ho : o.op = .makeSlice t x y) (ht : P.underlying t = some (.slice e)) (hi : (P.info? e).map (fun i => (i.zero, i.size, i.bytes)) = some (some v, 1, b)) (hx : opv vs x = some (.int k z)) (hy : opv vs y = some (.int k' z)) (hz : z = (m : Int)) (hsm : m * 1 ≤ 16777216) (hb : b * m ≤ 281474976710656) (hm : m ≤ 9223372036854775807) (h1 : v.cells = #[v])
    (h : ∀ g, OwnIn w0 [] (.slice (some ⟨g, 0, none⟩) m m) → SxL P ops Q rest n ((d, .slice (some ⟨g, 0, none⟩) m m) :: vs) w0 (rowX [] w0.heap.size e 1 (.slice (some ⟨g, 0, none⟩) m m) m (List.replicate m v) :: L)) : SxL P ops Q (o :: rest) n vs w0 L :=
  SxL.newG (σ := Nat) (fun g => .slice (some ⟨g, 0, none⟩) m m) (fun g => OwnIn w0 [] (.slice (some ⟨g, 0, none⟩) m m)) (fun g => rowX [] w0.heap.size e 1 (.slice (some ⟨g, 0, none⟩) m m) m (List.replicate m v) :: L) hon hd hdn (fun ρ w E H => by
    obtain ⟨w', hr, hown, hb⟩ := ex_makeSlice (P := P) (w := w) E ho ht hi hx hy hz hsm hb hm h1
    refine ⟨w.heap.size, w', hr, fun g hg => .inr (Nat.le_trans H.os.size (own_lt hown g hg).1), H.add hb _ (rowX_loc _ _ _ _ _ _ _) (fun g hg => ⟨(own_lt hown g (by simpa [rowX] using hg)).2, (own_lt hown g (by simpa [rowX] using hg)).1⟩) (own_base hown H.os.size)⟩) h
end
theorem resM {P : Program} {n : Nat} {vs : Vs} {fn : Func} {a : Act} {w : World} (K : Kn n vs a) {rs : List ResultVar} (l : List Value) (h : fn.results = rs.toArray) (hl : Nat.beq l.length 1 = false) (hv : resV P vs w rs l) : (results fn a.tmps).run P w = .ok (.tuple l.toArray) w := by
  rw [resN K l h hv, dif_neg]
  intro e
  have e2 : l.length = 1 := by simpa using e
  rw [e2] at hl
  cases hl
theorem flip_bit (b : UInt8) (r : Nat) (hr : r < 8) : ∃ (p : Nat) (v : UInt8), IntKind.u8.wrap (1 * 2 ^ (min r IntKind.u8.bits)) = (p : Int) ∧ IntKind.u8.wrap ((BitVec.ofInt IntKind.u8.bits (b.toNat : Int) ^^^ BitVec.ofInt IntKind.u8.bits (p : Int)).toNat) = (v.toNat : Int) ∧ v ≠ b := by
  have all : ∀ n < 256, ∀ r < 8, IntKind.u8.wrap (1 * 2 ^ (min r IntKind.u8.bits)) = ((2 ^ r : Nat) : Int) ∧ IntKind.u8.wrap ((BitVec.ofInt IntKind.u8.bits ((n : Nat) : Int) ^^^ BitVec.ofInt IntKind.u8.bits ((2 ^ r : Nat) : Int)).toNat) = ((n ^^^ 2 ^ r : Nat) : Int) ∧ n ^^^ 2 ^ r < 256 ∧ n ^^^ 2 ^ r ≠ n := by decide +kernel
  obtain ⟨h1, h2, h3, h4⟩ := all b.toNat b.toNat_lt r hr
  have e : (UInt8.ofNat (b.toNat ^^^ 2 ^ r)).toNat = b.toNat ^^^ 2 ^ r := by rw [UInt8.toNat_ofNat', Nat.mod_eq_of_lt (by simpa using h3)]
  exact ⟨2 ^ r, UInt8.ofNat (b.toNat ^^^ 2 ^ r), h1, by rw [e, h2], fun h => h4 (by rw [← e, h])⟩
end Go.Proofs.Yteiaiilfekojfaa.Sx
