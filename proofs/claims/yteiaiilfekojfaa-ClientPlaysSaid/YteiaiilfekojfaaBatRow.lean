/- Rows of structs in blocks of their own: a prefix, a struct taken out, cells behind the end cleared; lists cut and joined, cell by cell. Conditions: those each law names. -/
import Derived.Test.YteiaiilfekojfaaRowsReads
import Derived.Test.YteiaiilfekojfaaRow
import Derived.Deep.DeepAppendRoom
import Derived.Deep.MidRow
import Derived.OrdersHeld
import Derived.Lib.SliceRun
namespace Go.Proofs.Yteiaiilfekojfaa
open Go.RowKit

section
variable {α : Type} {cells : α → List Value} {sz : Nat}
theorem flat_take (hc : ∀ x, (cells x).length = sz) : ∀ (l : List α) (i : Nat), (l.flatMap cells).take (i * sz) = (l.take i).flatMap cells
  | [], i => by simp
  | x :: l, 0 => by simp
  | x :: l, i + 1 => by
    rw [List.flatMap_cons, List.take_succ_cons, List.flatMap_cons, List.take_append, hc x, Nat.add_mul, Nat.one_mul]
    rw [List.take_of_length_le (by rw [hc x]; omega), Nat.add_sub_cancel, flat_take hc l i]
theorem flat_drop (hc : ∀ x, (cells x).length = sz) : ∀ (l : List α) (i : Nat), (l.flatMap cells).drop (i * sz) = (l.drop i).flatMap cells
  | [], i => by simp
  | x :: l, 0 => by simp
  | x :: l, i + 1 => by
    rw [List.flatMap_cons, List.drop_succ_cons, List.drop_append, hc x, Nat.add_mul, Nat.one_mul]
    rw [List.drop_of_length_le (by rw [hc x]; omega), Nat.add_sub_cancel, flat_drop hc l i, List.nil_append]
end
section
variable {w w' : World} {base : Nat} {e : TypeId} {size n cap g : Nat} {xs : List Value} {v : Value}
/-- A prefix of an owned row. -/
theorem own_pre (h : w.ownsRow base e size (.slice (some ⟨g, 0, none⟩) n cap) n xs) {i : Nat} (hi : i ≤ n) : w.ownsRow base e size (.slice (some ⟨g, 0, none⟩) i cap) i (xs.take (i * size)) := by
  refine ⟨by rw [List.length_take, h.1, Nat.min_eq_left (Nat.mul_le_mul_right _ hi)], ?_⟩
  rcases h.2 with ⟨h0, _⟩ | ⟨g', cap', cur, hv, hb, hg, hn, hm, hs, ht⟩
  · cases h0
  · cases hv
    exact .inr ⟨g, cap, cur, rfl, hb, hg, by omega, hm, hs, by rw [← ht, List.take_take, Nat.min_eq_left (Nat.mul_le_mul_right _ hi)]⟩
/-- The block of an owned row. -/
theorem own_cells (h : w.ownsRow base e size (.slice (some ⟨g, 0, none⟩) n cap) n xs) : ∃ cur, Blk w g e cur ∧ base ≤ g ∧ n ≤ cap ∧ cap ≤ maxLen ∧ cur.size = cap * size ∧ cur.toList.take (n * size) = xs := by
  rcases h.2 with ⟨h0, _⟩ | ⟨g', cap', cur, hv, hb, hg, hn, hm, hs, ht⟩
  · cases h0
  · cases hv
    exact ⟨cur, hg, hb, hn, hm, hs, ht⟩
theorem own_of_cells {cur : Array Value} (hl : xs.length = n * size) (hg : Blk w g e cur) (hb : base ≤ g) (hn : n ≤ cap) (hm : cap ≤ maxLen) (hs : cur.size = cap * size) (ht : cur.toList.take (n * size) = xs) :
    w.ownsRow base e size (.slice (some ⟨g, 0, none⟩) n cap) n xs := ⟨hl, .inr ⟨g, cap, cur, rfl, hb, hg, hn, hm, hs, ht⟩⟩
theorem putA_size : ∀ (vs : List Value) (cs : Array Value) (o : Nat), (putA cs o vs).size = cs.size
  | [], _, _ => rfl
  | v :: vs, cs, o => by rw [putA, putA_size vs]; simp
theorem putA_take : ∀ (vs : List Value) (cs : Array Value) (o k : Nat), k ≤ o → (putA cs o vs).toList.take k = cs.toList.take k
  | [], _, _, _, _ => rfl
  | v :: vs, cs, o, k, h => by
    rw [putA, putA_take vs _ (o + 1) k (by omega)]
    simp only [Array.toList_setIfInBounds]
    rw [List.take_set_of_le h]
/-- clear(s) of one struct. -/
theorem run_clear_one {P : Program} {t ty : TypeId} {z : Array Value} (ht : P.underlying t = some (.slice e)) (hv : ∀ w, (zeroValue e).run P w = .ok (.agg z) w) (h1 : z.toList.all (·.oneCell') = true) {cur : Array Value} (hg : Blk w g e cur) {o c : Nat} (ho : o + z.size ≤ cur.size) :
    (Builtin.clear_ #[t] ty #[.slice (some ⟨g, o, none⟩) 1 c]).run P w = .ok (.tuple #[]) (w.setCells g o z.toList) := by
  have hzc : (Builtin.zeroCells (Value.agg z).cells 1).toList = z.toList := by
    show (Builtin.zeroCells z 1).toList = z.toList
    unfold Builtin.zeroCells
    apply List.ext_getElem
    · simp
    · intro i a1 a2
      have hi : i < z.size := by simpa using a2
      simp [Nat.mod_eq_of_lt hi, hi]
  have hth := blk_there (w := w) hg ho
  have hst := run_storeCells_cells (P := P) g o z.toList 0 w (by intro j hj; rw [Nat.add_zero]; exact (hth j (by simpa using hj)).1) (by intro j hj; rw [Nat.add_zero]; exact (hth j (by simpa using hj)).2) (by intro v hv'; exact List.all_eq_true.1 h1 v hv')
  simp only [Nat.add_zero] at hst
  simp [Builtin.clear_, run_underlying ht, hv, hzc, hst]
/-- A struct taken out of an owned row: append(s[:i], s[i+1:]...). -/
theorem run_append_del {P : Program} {α : Type} {cells : α → List Value} (hc : ∀ x, (cells x).length = size) (h1 : ∀ x, ∀ u ∈ cells x, u.oneCell' = true) {t ty : TypeId} {i0 : TypeInfo} (ht : P.underlying t = some (.slice e)) (hi0 : P.info? e = some i0) (hsize : i0.size = size)
    {l : List α} (hn : n = l.length) (h : w.ownsRow base e size (.slice (some ⟨g, 0, none⟩) n cap) n (l.flatMap cells)) {i : Nat} (hi : i < n) {a : Addr} {c : Nat} (ha : i + 1 < n → a = ⟨g, (i + 1) * size, none⟩) :
    ∃ w', (Builtin.append_ #[t, t] ty #[.slice (some ⟨g, 0, none⟩) i cap, .slice (some a) (n - (i + 1)) c]).run P w = .ok (.slice (some ⟨g, 0, none⟩) (n - 1) cap) w' ∧
      w'.ownsRow base e size (.slice (some ⟨g, 0, none⟩) (n - 1) cap) (n - 1) ((l.eraseIdx i).flatMap cells) ∧ w.grownBy w' (some g) := by
  obtain ⟨cur, hg, hb, hnc, hm, hs, hta⟩ := own_cells h
  have hp := own_pre h (Nat.le_of_lt hi)
  have hlen : ((l.drop (i + 1)).flatMap cells).length = (n - (i + 1)) * size := by rw [flat_length hc, List.length_drop, hn]
  obtain ⟨w', hr, ho, hgr⟩ := run_append_own_spare (P := P) w base t ty e i0 size ht hi0 hsize g i cap _ hp a (n - (i + 1)) c ((l.drop (i + 1)).flatMap cells) hlen (fun j u hj => by
    have hjl : j < (n - (i + 1)) * size := by rw [← hlen]; exact (List.getElem?_eq_some_iff.1 hj).1
    have hi1 : i + 1 < n := by
      rcases Nat.lt_or_ge (i + 1) n with h' | h'
      · exact h'
      · rw [Nat.sub_eq_zero_of_le h', Nat.zero_mul] at hjl; omega
    rw [ha hi1]
    have e1 : (⟨g, (i + 1) * size, none⟩ : Addr).add j = ⟨g, (i + 1) * size + j, none⟩ := by unfold Addr.add; by_cases h : j = 0 <;> simp [h]
    rw [e1, hg.cell]
    rw [← flat_drop hc, List.getElem?_drop, ← hta, List.getElem?_take] at hj
    split at hj
    · rw [← Array.getElem?_toList]; exact hj
    · cases hj) (flat_one h1 _) (by omega)
  rw [show i + (n - (i + 1)) = n - 1 by omega] at hr ho
  refine ⟨w', hr, ?_, hgr⟩
  rw [flat_take hc, ← List.flatMap_append, ← List.eraseIdx_eq_take_drop_succ] at ho
  exact ho
theorem own_below {h0 : Nat} (h : w.ownsRow base e size v n xs) (hb : Below h0 w w') (hs : ∀ g, v.ownBlock = some g → g < h0) : w'.ownsRow base e size v n xs := by
  refine ⟨h.1, ?_⟩
  rcases h.2 with h' | ⟨g, cap, cur, rfl, hg, hh, rest⟩
  · exact .inl h'
  · exact .inr ⟨g, cap, cur, rfl, hg, (hb.block g (hs g rfl)).trans hh, rest⟩
theorem own_grown2 {row : Option Nat} (h : w.ownsRow base e size v n xs) (hb : w.grownBy w' row) (hne : ∀ g, v.ownBlock = some g → row ≠ some g) : w'.ownsRow base e size v n xs := by
  have hlt := h.lt
  refine ⟨h.1, ?_⟩
  rcases h.2 with h' | ⟨g, cap, cur, rfl, hg, hh, rest⟩
  · exact .inl h'
  · exact .inr ⟨g, cap, cur, rfl, hg, (hb.block g (hlt g rfl).2 (fun he => hne g rfl he.symm)).trans hh, rest⟩
theorem step_load {P : Program} {ty : TypeId} {ops : Array Oper} {o : Oper} {a : Act} {K : Act → World → Prop} {Q : Exit → Act → World → Prop} {E : Prop} (hgd : o.guard = none) (p : Operand) (ho : o.op = .load ty p) {pv v : Value} (hp : a.eval p = pv) (hr : (Instr.loadAt ty pv).run P w = .ok v w) (h : K (a.put o.dst v) w) :
    if Region.wanted o (yielded ops a.tmps) = true then Oper.wp P o a w K Q else E := by
  have hw : Region.wanted o (yielded ops a.tmps) = true := by simp [Region.wanted, hgd]
  rw [if_pos hw]
  unfold Oper.wp execOp
  simp only [ho, hp, Sem.run_bind, Sem.run_pure, Result.andThen_ok, hr]
  exact h
theorem put_is {tm : List Value} {ds : List Deferred} {d : Tmp} {v : Value} : (Act.mk tm.toArray ds).put (some d) v = ⟨(tm.set d v).toArray, ds⟩ := by simp [Act.put]
theorem wpAnyH_put {P : Program} {ops : Array Oper} {Q : Exit → Act → World → Prop} {md : Region.Mode} {S : World → Prop} {d : Nat} {od : Option Tmp} {v : Value} {fuel : Nat} {listed : Array Bool} {tm : List Value} {ds : List Deferred} (hd : od = some d)
    (h : wpAnyH P md ops Q S fuel listed ⟨(tm.set d v).toArray, ds⟩ w) : wpAnyH P md ops Q S fuel listed ((Act.mk tm.toArray ds).put od v) w := by
  rw [hd, put_is]
  exact h
theorem step_exec {P : Program} {ops : Array Oper} {o : Oper} {a : Act} {K : Act → World → Prop} {Q : Exit → Act → World → Prop} {E : Prop} (hgd : o.guard = none) (v : Value) (w' : World) (hr : (execOp a.eval o).run P w = .ok (.value v) w') (h : K (a.put o.dst v) w') :
    if Region.wanted o (yielded ops a.tmps) = true then Oper.wp P o a w K Q else E := by
  have hw : Region.wanted o (yielded ops a.tmps) = true := by simp [Region.wanted, hgd]
  rw [if_pos hw]
  unfold Oper.wp
  rw [hr]
  exact h
theorem exec_slice {P : Program} {ρ : Operand → Value} {o : Oper} {t : TypeId} {x : Operand} {lo hi mx : Option Operand} (ho : o.op = .slice t x lo hi mx) (ht : P.underlying t = some (.slice (P.elem t))) {vx v : Value} {lo' hi' mx' : Option Value} (hx : ρ x = vx) (h1 : lo.map ρ = lo') (h2 : hi.map ρ = hi') (h3 : mx.map ρ = mx') (hr : (Instr.slice t vx lo' hi' mx').run P w = .ok v w) : (execOp ρ o).run P w = .ok (.value v) w := by
  unfold execOp
  simp only [ho, hx, h1, h2, h3, Sem.run_bind, Sem.run_pure, Result.andThen_ok, run_sliceAt_slice w t vx lo' hi' mx' ht, hr]
theorem wpList_run_slice {P : Program} {ops : Array Oper} {rest : List Oper} {o : Oper} {a : Act} {Q : Exit → Act → World → Prop} (hgd : o.guard = none) {t : TypeId} {x : Operand} {lo hi mx : Option Operand} (ho : o.op = .slice t x lo hi mx) (ht : P.underlying t = some (.slice (P.elem t))) {vx v : Value} {lo' hi' mx' : Option Value} (hx : a.eval x = vx) (h1 : lo.map a.eval = lo') (h2 : hi.map a.eval = hi') (h3 : mx.map a.eval = mx') (hr : (Instr.slice t vx lo' hi' mx').run P w = .ok v w) (h : wpList P ops Q rest (a.put o.dst v) w) : wpList P ops Q (o :: rest) a w :=
  wpList_plain hgd fun _ hK => by
    unfold Oper.wp
    rw [exec_slice ho ht hx h1 h2 h3 hr]
    exact hK _ _ h
/-- append, its run known. -/
theorem exec_append {P : Program} {ρ : Operand → Value} {o : Oper} {s x : Operand} {t : TypeId} (ho : o.op = .call { callee := .builtin .append, args := #[s, x], argTypes := #[t, t] }) {vs vx v : Value} (hs : ρ s = vs) (hx : ρ x = vx) (hr : (Builtin.append_ #[t, t] o.type #[vs, vx]).run P w = .ok v w') : (execOp ρ o).run P w = .ok (.value v) w' := by
  unfold execOp
  simp only [ho, resolve, invoke, builtin, Sem.run_bind, Sem.run_pure, Result.andThen_ok, List.map_toArray, List.map_cons, List.map_nil, hs, hx, hr]
theorem step_run_append {P : Program} {ops : Array Oper} {o : Oper} {a : Act} {K : Act → World → Prop} {Q : Exit → Act → World → Prop} {E : Prop} (hgd : o.guard = none) (s x : Operand) (t : TypeId) (ho : o.op = .call { callee := .builtin .append, args := #[s, x], argTypes := #[t, t] }) {vs vx v : Value} (hs : a.eval s = vs) (hx : a.eval x = vx) (hr : (Builtin.append_ #[t, t] o.type #[vs, vx]).run P w = .ok v w') (h : K (a.put o.dst v) w') :
    if Region.wanted o (yielded ops a.tmps) = true then Oper.wp P o a w K Q else E := by
  have hw : Region.wanted o (yielded ops a.tmps) = true := by simp [Region.wanted, hgd]
  rw [if_pos hw]
  unfold Oper.wp
  rw [exec_append ho hs hx hr]
  exact h
theorem wpList_run_append {P : Program} {ops : Array Oper} {rest : List Oper} {o : Oper} {a : Act} {Q : Exit → Act → World → Prop} (hgd : o.guard = none) (s x : Operand) (t : TypeId) (ho : o.op = .call { callee := .builtin .append, args := #[s, x], argTypes := #[t, t] }) {vs vx v : Value} (hs : a.eval s = vs) (hx : a.eval x = vx) (hr : (Builtin.append_ #[t, t] o.type #[vs, vx]).run P w = .ok v w') (h : wpList P ops Q rest (a.put o.dst v) w') : wpList P ops Q (o :: rest) a w :=
  wpList_plain hgd fun _ hK => by
    unfold Oper.wp
    rw [exec_append ho hs hx hr]
    exact hK _ _ h
theorem wpList_run_clear {P : Program} {ops : Array Oper} {rest : List Oper} {o : Oper} {a : Act} {Q : Exit → Act → World → Prop} (hgd : o.guard = none) (s : Operand) (t : TypeId) (ho : o.op = .call { callee := .builtin .clear, args := #[s], argTypes := #[t] }) {vs v : Value} (hs : a.eval s = vs) (hr : (Builtin.clear_ #[t] o.type #[vs]).run P w = .ok v w') (h : wpList P ops Q rest (a.put o.dst v) w') : wpList P ops Q (o :: rest) a w :=
  wpList_plain hgd fun _ hK => by
    unfold Oper.wp execOp
    simp only [ho, resolve, invoke, builtin, Sem.run_bind, Sem.run_pure, Result.andThen_ok, List.map_toArray, List.map_cons, List.map_nil, hs, hr]
    exact hK _ _ h
/-- Cells behind the end, written: the row stays. -/
theorem own_behind (h : w.ownsRow base e size (.slice (some ⟨g, 0, none⟩) n cap) n xs) (vs : List Value) {o : Nat} (ho : n * size ≤ o) : (w.setCells g o vs).ownsRow base e size (.slice (some ⟨g, 0, none⟩) n cap) n xs := by
  obtain ⟨cur, hg, hb, hnc, hm, hs, hta⟩ := own_cells h
  exact own_of_cells h.1 (hg.setCells vs o) hb hnc hm (by rw [putA_size]; exact hs) (by rw [putA_take vs cur o _ ho]; exact hta)
end
end Go.Proofs.Yteiaiilfekojfaa
