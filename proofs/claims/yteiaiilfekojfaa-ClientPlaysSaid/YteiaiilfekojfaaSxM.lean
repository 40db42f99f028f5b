/- The walk Sx: rows of things that may be read, rows of one's own, calls that hand back a row or turn a block. No program in sight. Conditions: what the operands hold. -/
import Derived.Test.YteiaiilfekojfaaSxK
import Derived.Test.YteiaiilfekojfaaRowsReads
import Derived.Lib.SliceRun
set_option linter.unusedVariables false
set_option linter.unusedSimpArgs false
namespace Go.Proofs.Yteiaiilfekojfaa.Sx
open Go.RowKit DrawInv

theorem add_add (a : Addr) (n m : Nat) : (a.add n).add m = a.add (n + m) := by
  unfold Addr.add
  by_cases h : n = 0 <;> by_cases h' : m = 0 <;> simp [h, h', Nat.add_assoc]
def RowAt (w : World) (a : Addr) (cs : List Value) : Prop := ∀ j v, cs[j]? = some v → w.cell? (a.add j) = some v
theorem _root_.Go.Proofs.Yteiaiilfekojfaa.Rows.row {α : Type} {w : World} {A : Option Addr} {sz : Nat} {cells : α → List Value} {l : List α} (h : Rows w A sz cells l) {k : Nat} {x : α} (hk : l[k]? = some x) :
    ∃ ad, A = some ad ∧ ad.block < w.heap.size ∧ RowAt w (ad.add (k * sz)) (cells x) := by
  obtain ⟨ad, e, hl, h0⟩ := h k x hk
  exact ⟨ad, e, hl, fun j v hj => by rw [add_add]; exact h0 j v hj⟩
theorem _root_.Go.Proofs.Yteiaiilfekojfaa.Rows.rowA {α : Type} {w : World} {ad : Addr} {sz : Nat} {cells : α → List Value} {l : List α} (h : Rows w (some ad) sz cells l) {k : Nat} {x : α} (hk : l[k]? = some x) : RowAt w (ad.add (k * sz)) (cells x) := by
  obtain ⟨ad', e, _, h0⟩ := h.row hk
  cases e
  exact h0
theorem _root_.Go.Proofs.Yteiaiilfekojfaa.Rows.outs {α : Type} {w w' : World} {A : Option Addr} {sz : Nat} {cells : α → List Value} {l : List α} {G : List Nat} (h : Rows w A sz cells l) (ho : Outs G w w') (hne : l ≠ [] → ∀ ad, A = some ad → ad.block ∉ G) : Rows w' A sz cells l := by
  intro k x hk
  obtain ⟨ad, e, hl, h0⟩ := h k x hk
  refine ⟨ad, e, Nat.lt_of_lt_of_le hl ho.size, fun j v hv => ?_⟩
  rw [ho.cell (by rw [block_of_add]; exact hl) (by rw [block_of_add]; exact hne (by rintro rfl; cases hk) ad e)]
  exact h0 j v hv
theorem _root_.Go.Proofs.Yteiaiilfekojfaa.Rows.lt {α : Type} {w : World} {A : Option Addr} {sz : Nat} {cells : α → List Value} {l : List α} (h : Rows w A sz cells l) (hne : l ≠ []) : ∀ ad, A = some ad → ad.block < w.heap.size := by
  intro ad e
  cases l with
  | nil => exact absurd rfl hne
  | cons x l =>
    obtain ⟨ad', e', hl, _⟩ := h 0 x rfl
    rw [e] at e'
    cases e'
    exact hl
section
variable {P : Program} {ρ : Operand → Value} {o : Oper} {w : World} {vs : Vs}
/-- An element loaded whole; a cell of it. -/
theorem ex_loadX {t : TypeId} {p : Operand} {a : Addr} {cs : List Value} {d : TypeDesc} (E : Env vs ρ) (hc : RowAt w a cs) (ho : o.op = .load t p) (hp : opv vs p = some (.pointer (some a))) (hu : P.underlying t = some d) (hd : d.isRow = true) (hz : (P.info? t).map (·.size) = some cs.length) : (execOp ρ o).run P w = .ok (.value (.agg cs.toArray)) w := by
  refine exec_load p ho (E.ev hp) ?_
  have hl : (loadCells a cs.length).run P w = .ok cs.toArray w := run_loadCells_list (P := P) w a cs hc
  cases hq : P.info? t with
  | none => simp [hq] at hz
  | some i =>
    have hs : i.size = cs.length := by simpa [hq] using hz
    have hagg : (isAgg t).run P w = .ok true w := by
      unfold isAgg
      rw [Sem.run_bind, run_underlying hu w]
      cases d <;> simp_all
    simp [Instr.loadAt, Instr.sureAddr, loadVar, Sem.run_bind, hagg, sizeOf, typeInfo, hq, hs, hl]
theorem ex_loadXc {t : TypeId} {p : Operand} {a : Addr} {cs : List Value} {v : Value} {d : TypeDesc} (E : Env vs ρ) (hc : RowAt w a cs) (j : Nat) (hj : cs[j]? = some v) (ho : o.op = .load t p) (hp : opv vs p = some (.pointer (some (a.add j)))) (hu : P.underlying t = some d) (hd : d.isRow = false) : (execOp ρ o).run P w = .ok (.value v) w :=
  ex_loadC E (hc j v hj) ho hp hu hd
theorem ex_field0 {s f : Nat} {x : Operand} {a : Addr} (E : Env vs ρ) (ho : o.op = .fieldAddr s x f) (hf : fieldAt P s f 0) (hx : opv vs x = some (.pointer (some a))) : (execOp ρ o).run P w = .ok (.value (.pointer (some a))) w := by
  rw [ex_fieldA E ho hf hx]
  unfold Addr.add
  rw [if_pos rfl]
theorem RowAt.take {w : World} {a : Addr} {cs : List Value} (h : RowAt w a cs) (n : Nat) : RowAt w a (cs.take n) := fun j v hj => h j v (by
  rw [List.getElem?_take] at hj
  split at hj
  · exact hj
  · cases hj)
theorem RowAt.mid {w : World} {a : Addr} {cs part : List Value} (h : RowAt w a cs) (o n : Nat) (hp : (cs.drop o).take n = part) : RowAt w (a.add o) part := fun j v hj => by
  rw [add_add]
  refine h (o + j) v ?_
  rw [← hp, List.getElem?_take] at hj
  split at hj
  · rw [List.getElem?_drop] at hj; exact hj
  · cases hj
theorem ex_loadX0 {t : TypeId} {p : Operand} {a : Addr} {cs : List Value} {v : Value} {d : TypeDesc} (E : Env vs ρ) (hc : RowAt w a cs) (hj : cs[0]? = some v) (ho : o.op = .load t p) (hp : opv vs p = some (.pointer (some a))) (hu : P.underlying t = some d) (hd : d.isRow = false) : (execOp ρ o).run P w = .ok (.value v) w :=
  ex_loadC E (by have := hc 0 v hj; unfold Addr.add at this; rw [if_pos rfl] at this; exact this) ho hp hu hd
theorem ex_fieldR {s f off i j : Nat} {x : Operand} {a : Addr} (E : Env vs ρ) (ho : o.op = .fieldAddr s x f) (hf : fieldAt P s f off) (hx : opv vs x = some (.pointer (some (a.add i)))) (hj : i + off = j) : (execOp ρ o).run P w = .ok (.value (.pointer (some (a.add j)))) w := by
  rw [ex_fieldA E ho hf hx, add_add, hj]
theorem ex_index0 {t e m g b j : Nat} {x y : Operand} {n c i : Nat} {k : IntKind} (E : Env vs ρ) (ho : o.op = .indexAddr t x y) (ht : P.underlying t = some (.slice e)) (hz : (P.info? e).map (·.size) = some m) (hx : opv vs x = some (.slice (some ⟨g, b, none⟩) n c)) (hy : opv vs y = some (.int k (i : Int))) (hi : i < n) (hj : b + i * m = j) : (execOp ρ o).run P w = .ok (.value (.pointer (some ⟨g, j, none⟩))) w := by
  rw [ex_index E ho ht hz hx hy hi, add_none, hj]
theorem ex_sadd {T U : TypeId} {x y : Operand} {a b : List UInt8} (E : Env vs ρ) (ho : o.op = .binOp .add T x y U) (hx : opv vs x = some (.string ⟨a.toArray⟩)) (hy : opv vs y = some (.string ⟨b.toArray⟩)) (hl : a.length + b.length ≤ 9223372036854775807) : (execOp ρ o).run P w = .ok (.value (.string ⟨(a ++ b).toArray⟩)) w := by
  unfold execOp; rw [ho]
  have h1 : ¬ 9223372036854775807 < (a.length : Int) + (b.length : Int) := by omega
  have h2 : (⟨a.toArray⟩ : ByteArray) ++ ⟨b.toArray⟩ = ⟨(a ++ b).toArray⟩ := by
    apply ByteArray.ext; simp [ByteArray.data_append]
  simp [E.ev hx, E.ev hy, eqGuard, binOp, Op.stringOp, h2, ByteArray.size, h1]
/-- A slice compared with none. -/
theorem ex_snil {T U : TypeId} {x y : Operand} {A : Option Addr} {n c : Nat} {e : TypeId} {t : Bool} (E : Env vs ρ) (ho : o.op = .binOp .eql T x y U) (hT : P.underlying T = some (.slice e)) (hg : P.eqGuardType P.depth T = false) (hx : opv vs x = some (.slice A n c)) (hy : opv vs y = some (.slice none 0 0)) (ht : A.isNone = t) : (execOp ρ o).run P w = .ok (.value (.bool t)) w := by
  subst ht
  unfold execOp; rw [ho]
  simp only [E.ev hx, E.ev hy, Sem.run_bind]
  have h1 : (eqGuard .eql T x y (.slice A n c) (.slice none 0 0)).run P w = .ok () w := by
    simp [eqGuard, hg]
  rw [h1]
  simp only [Result.andThen_ok, Lib.run_eql_slice_nil w T e A n c 0 0 hT, Sem.run_bind, Sem.run_pure]
end
theorem ex_buildSlice0 {P : Program} {ρ : Operand → Value} {o : Oper} {w : World} {t e : TypeId} (ho : o.op = .buildSlice t 0 #[]) (hb : ∀ W : World, (Instr.buildSlice t 0 #[]).run P W = .ok (.slice (some ⟨W.heap.size, 0, none⟩) 0 0) (W.alloc (.cells #[] e))) :
    (execOp ρ o).run P w = .ok (.value (.slice (some ⟨w.heap.size, 0, none⟩) 0 0)) (w.alloc (.cells ([] : List Value).toArray e)) := by
  unfold execOp; rw [ho]
  simp only [Array.map_empty, Sem.run_bind, hb w, Result.andThen_ok, Sem.run_pure]
theorem own_new0 {w : World} {base g e sz : Nat} (h : (cell g e []).φ w) (hg : base ≤ g) : w.ownsRow base e sz (.slice (some ⟨g, 0, none⟩) 0 0) 0 [] :=
  ⟨by simp, .inr ⟨g, 0, #[], rfl, hg, h, Nat.le_refl _, by decide, by simp, by simp⟩⟩
theorem flat_one {α : Type} {f : α → List Value} (h : ∀ x, ∀ u ∈ f x, u.oneCell' = true) (l : List α) : ∀ u ∈ l.flatMap f, u.oneCell' = true := fun u hu => by
  obtain ⟨x, _, hx⟩ := List.mem_flatMap.1 hu
  exact h x u hx
theorem rows_none {α : Type} {w : World} {A : Option Addr} {sz : Nat} {cells : α → List Value} {l : List α} (h : Rows w A sz cells l) (hA : A.isNone = true) : l = [] := by
  cases l with
  | nil => rfl
  | cons x l =>
    obtain ⟨ad, e, _⟩ := h 0 x rfl
    rw [e] at hA
    cases hA
/-- A row of one's own; 'ex': blocks that it once lay in. -/
def rowX (ex : List Nat) (base : Nat) (e : TypeId) (size : Nat) (v : Value) (n : Nat) (xs : List Value) : Ft := ⟨ex ++ v.ownBlock.toList, fun w => w.ownsRow base e size v n xs⟩
def OwnIn (w0 : World) (ex : List Nat) (v : Value) : Prop := ∀ g ∈ v.ownBlock.toList, g ∈ ex ∨ w0.heap.size ≤ g
theorem rowX_loc (ex : List Nat) (base : Nat) (e : TypeId) (size : Nat) (v : Value) (n : Nat) (xs : List Value) : (rowX ex base e size v n xs).Loc := by
  intro w w' h hown
  refine ⟨hown.1, hown.2.imp id fun ⟨g, cap, cur, ev, r1, r2, r3⟩ => ⟨g, cap, cur, ev, r1, ?_, r3⟩⟩
  subst ev
  rw [h g (by simp [rowX, Value.ownBlock])]
  exact r2
theorem own_lt {w : World} {base : Nat} {e : TypeId} {size : Nat} {v : Value} {n : Nat} {xs : List Value} (h : w.ownsRow base e size v n xs) : ∀ g ∈ v.ownBlock.toList, base ≤ g ∧ g < w.heap.size := by
  intro g hg
  exact h.lt g (by simpa using hg)
theorem own_as {w : World} {base : Nat} {e : TypeId} {size : Nat} {v : Value} {n n' : Nat} {xs xs' : List Value} (h : w.ownsRow base e size v n xs) (hn : n = n') (hx : xs = xs') : w.ownsRow base e size v n' xs' := by subst hn hx; exact h
theorem own_is_slice {w : World} {base : Nat} {e : TypeId} {size : Nat} {v : Value} {n : Nat} {xs : List Value} (h : w.ownsRow base e size v n xs) : ∃ A c, v = .slice A n c := by
  rcases h.2 with ⟨rfl, rfl⟩ | ⟨g, cap, cur, rfl, _⟩
  · exact ⟨none, 0, rfl⟩
  · exact ⟨_, _, rfl⟩
theorem own_base {w : World} {b b' : Nat} {e : TypeId} {size n : Nat} {v : Value} {xs : List Value} (h : w.ownsRow b e size v n xs) (hb : b' ≤ b) : w.ownsRow b' e size v n xs :=
  ⟨h.1, h.2.imp id (fun ⟨g, cap, cur, e, hg, r⟩ => ⟨g, cap, cur, e, Nat.le_trans hb hg, r⟩)⟩
theorem OwnIn.fresh {w0 : World} {v : Value} (h : OwnIn w0 [] v) {base : Nat} {e : TypeId} {size n : Nat} {xs : List Value} : ∀ g ∈ (rowX [] base e size v n xs).fp, w0.heap.size ≤ g := fun g hg => (h g (by simpa [rowX] using hg)).resolve_left (by simp)
theorem OwnIn.in_ {w0 : World} {ex : List Nat} {v : Value} (h : OwnIn w0 ex v) {base : Nat} {e : TypeId} {size n : Nat} {xs : List Value} : ∀ g ∈ (rowX ex base e size v n xs).fp, g ∈ ex ∨ w0.heap.size ≤ g := fun g hg => by
  rcases List.mem_append.1 hg with h' | h'
  · exact .inl h'
  · exact h g h'
section
variable {P : Program} {ops : Array Oper} {Q Q' : Exit → Act → World → Prop} {n : Nat} {vs : Vs} {w0 : World} {L : List Ft} {o : Oper} {rest : List Oper} {S : World → Prop} {fuel : Nat} {listed : Array Bool}
/-- A call that hands back a row of one's own; one that turns a fact. -/
theorem callOwn {f : Nat} {args : Array Value} {e : TypeId} {sz m : Nat} {xs : List Value} (hc : ∀ w, Hp w0 L w → Calls P f args w fun E w' => ∃ v', E = .returned v' ∧ w'.ownsRow w.heap.size e sz v' m xs ∧ Below w.heap.size w w') :
    ∀ w, Hp w0 L w → Calls P f args w fun E w' => ∃ s : Value, E = .returned s ∧ OwnIn w0 [] s ∧ Hp w0 (rowX [] w0.heap.size e sz s m xs :: L) w' := fun w H => (hc w H).mono fun E w' ⟨v', he, hown, hb⟩ =>
  ⟨v', he, fun g hg => .inr (Nat.le_trans H.os.size (own_lt hown g hg).1), H.add hb _ (rowX_loc _ _ _ _ _ _ _) (fun g hg => ⟨(own_lt hown g (by simpa [rowX] using hg)).2, (own_lt hown g (by simpa [rowX] using hg)).1⟩) (own_base hown H.os.size)⟩
theorem callTurn {f : Nat} {args : Array Value} {v : Value} {i : Nat} {x : Ft} (x' : Ft) (hi : nth L i = some x) (hl : x'.Loc) (hfp : x'.fp = x.fp) (hc : ∀ w, Hp w0 L w → Calls P f args w fun E w' => E = .returned v ∧ x'.φ w' ∧ Outs x.fp w w') :
    ∀ w, Hp w0 L w → Calls P f args w fun E w' => ∃ s : Unit, E = .returned v ∧ True ∧ Hp w0 (putF L i x') w' := fun w H => (hc w H).mono fun E w' ⟨he, hx, ho⟩ =>
  ⟨(), he, trivial, H.chg hi x' ho hl (fun g hg => ⟨Nat.lt_of_lt_of_le ((H.ok x (nth_mem hi)).2.1 g (hfp ▸ hg)) ho.size, .inl (hfp ▸ hg)⟩) (fun g hg => .inl (hfp ▸ hg)) hx⟩
theorem turn_rd {g : Nat} {e0 : Ending} {v : Value} {w w' : World} {t : TypeId} {cs : List Value} (h : e0 = .returned v ∧ Blk w' g t cs.toArray ∧ w.grownBy w' (some g)) : e0 = .returned v ∧ (cell g t cs).φ w' ∧ Outs [g] w w' :=
  ⟨h.1, h.2.1, Outs.of_grown h.2.2 (List.mem_singleton.2 rfl)⟩
/-- Something appended to a row of one's own. -/
theorem append_wp {o : Oper} {a : Act} {w : World} {K : Act → World → Prop} {i : Nat} {s x : Operand} {t base : Nat} {e : TypeId} {size by_ k m c : Nat} {z v : Value} {xs news : List Value} {A : Option Addr} {ex : List Nat} (K0 : Kn n vs a) (H : Hp w0 L w)
    (ho : o.op = .call { callee := .builtin .append, args := #[s, x], argTypes := #[t, t] }) (ht : P.underlying t = some (.slice e)) (hi : (P.info? e).map (fun i => (i.zero, i.size, i.bytes)) = some (some z, size, by_)) (hzs : z.cells.size = size) (hsz : Nat.blt 0 size = true)
    (hs : opv vs s = some v) (hL : nth L i = some (rowX ex base e size v k xs)) (hv : OwnIn w0 ex v) (hx : opv vs x = some (.slice A m c)) (hr : ∀ w, Hp w0 L w → ∃ B, Reads w B size A m news) (h1 : ∀ u ∈ news, u.oneCell' = true)
    (h63 : k + m ≤ maxLen) (hby : (k + m) * by_ ≤ 140737488355328) (hbase : base ≤ w0.heap.size)
    (h : ∀ A' c' w', OwnIn w0 ex (.slice A' (k + m) c') → Hp w0 (putF L i (rowX ex base e size (.slice A' (k + m) c') (k + m) (xs ++ news))) w' → K (a.put o.dst (.slice A' (k + m) c')) w') : o.wp P a w K Q := by
  cases hq : P.info? e with
  | none => rw [hq] at hi; cases hi
  | some ti =>
    rw [hq] at hi
    have hi := Option.some.inj hi
    injection hi with hz hi
    injection hi with h2 h3
    obtain ⟨B, hr⟩ := hr w H
    have hown : w.ownsRow base e size v k xs := H.get hL
    refine wp_append_any w s x t ho base e ti z size by_ ht hq hz h2 h3 hzs (by simpa using hsz) v k xs (K0.env.ev hs) hown B A m c news (K0.env.ev hx) hr h1 h63 hby (Nat.le_trans hbase H.os.size) ?_
    intro v' w' hown' hg hob
    have hnew : ∀ g ∈ v'.ownBlock.toList, g ∈ v.ownBlock.toList ∨ w.heap.size ≤ g := fun g hgm => by
      rcases hob with e | e
      · left; rw [← e]; exact hgm
      · right; rw [e] at hgm; simp at hgm; omega
    have hv' : OwnIn w0 ex v' := fun g hgm => (hnew g hgm).elim (hv g) fun h => .inr (Nat.le_trans H.os.size h)
    have hos : Outs (ex ++ v.ownBlock.toList) w w' := by
      cases hb : v.ownBlock with
      | none => rw [hb] at hg; exact ⟨hg.os, hg.tape, hg.output, hg.size, fun k hk _ => hg.block k hk (fun e => by cases e)⟩
      | some b => rw [hb] at hg; exact (Outs.of_grown hg (List.mem_singleton.2 rfl)).mono fun g hgm _ => by simp at hgm ⊢; exact .inr hgm
    obtain ⟨A', c', rfl⟩ := own_is_slice hown'
    refine h A' c' w' hv' (H.chg hL _ hos (rowX_loc _ _ _ _ _ _ _) (fun g hgm => ?_) (fun g hgm => ?_) hown')
    · rcases List.mem_append.1 hgm with h' | h'
      · exact ⟨Nat.lt_of_lt_of_le ((H.ok _ (nth_mem hL)).2.1 g (List.mem_append.2 (.inl h'))) hos.size, .inl (List.mem_append.2 (.inl h'))⟩
      · exact ⟨(own_lt hown' g h').2, (hnew g h').imp (fun h => List.mem_append.2 (.inr h)) id⟩
    · rcases List.mem_append.1 hgm with h' | h'
      · exact .inl (List.mem_append.2 (.inl h'))
      · exact (hv g h').imp (fun h => List.mem_append.2 (.inl h)) id
theorem SxL.append {d i : Nat} {s x : Operand} {t base : Nat} {e : TypeId} {size by_ k m c : Nat} {z v : Value} {xs news : List Value} {A : Option Addr} {ex : List Nat} (hon : GOn ops vs o.guard) (hd : o.dst = some d) (hdn : Nat.blt d n = true)
    (ho : o.op = .call { callee := .builtin .append, args := #[s, x], argTypes := #[t, t] }) (ht : P.underlying t = some (.slice e)) (hi : (P.info? e).map (fun i => (i.zero, i.size, i.bytes)) = some (some z, size, by_)) (hzs : z.cells.size = size) (hsz : Nat.blt 0 size = true)
    (hs : opv vs s = some v) (hL : nth L i = some (rowX ex base e size v k xs)) (hv : OwnIn w0 ex v) (hx : opv vs x = some (.slice A m c)) (hr : ∀ w, Hp w0 L w → ∃ B, Reads w B size A m news) (h1 : ∀ u ∈ news, u.oneCell' = true)
    (h63 : k + m ≤ maxLen) (hby : (k + m) * by_ ≤ 140737488355328) (hbase : base ≤ w0.heap.size)
    (h : ∀ A' c', OwnIn w0 ex (.slice A' (k + m) c') → SxL P ops Q rest n ((d, .slice A' (k + m) c') :: vs) w0 (putF L i (rowX ex base e size (.slice A' (k + m) c') (k + m) (xs ++ news)))) : SxL P ops Q (o :: rest) n vs w0 L := fun a w K H => by
  refine on_list (hon.on K.env) ?_
  refine append_wp K H ho ht hi hzs hsz hs hL hv hx hr h1 h63 hby hbase fun A' c' w' hv' H' => ?_
  rw [hd]
  exact h A' c' hv' _ _ (K.put hdn _) H'
theorem SxO.append {i' d i : Nat} {o : Oper} {s x : Operand} {t base : Nat} {e : TypeId} {size by_ k m c : Nat} {z v : Value} {xs news : List Value} {A : Option Addr} {ex : List Nat} (hi' : ops[i']? = some o) (hon : GOn ops vs o.guard) (hd : o.dst = some d) (hdn : Nat.blt d n = true)
    (ho : o.op = .call { callee := .builtin .append, args := #[s, x], argTypes := #[t, t] }) (ht : P.underlying t = some (.slice e)) (hi : (P.info? e).map (fun i => (i.zero, i.size, i.bytes)) = some (some z, size, by_)) (hzs : z.cells.size = size) (hsz : Nat.blt 0 size = true)
    (hs : opv vs s = some v) (hL : nth L i = some (rowX ex base e size v k xs)) (hv : OwnIn w0 ex v) (hx : opv vs x = some (.slice A m c)) (hr : ∀ w, Hp w0 L w → ∃ B, Reads w B size A m news) (h1 : ∀ u ∈ news, u.oneCell' = true)
    (h63 : k + m ≤ maxLen) (hby : (k + m) * by_ ≤ 140737488355328) (hbase : base ≤ w0.heap.size)
    (hS : ∀ A' c' w, OwnIn w0 ex (.slice A' (k + m) c') → Hp w0 (putF L i (rowX ex base e size (.slice A' (k + m) c') (k + m) (xs ++ news))) w → S w)
    (h : ∀ A' c', OwnIn w0 ex (.slice A' (k + m) c') → SxA P ops Q S fuel (listed.setIfInBounds i' true) n ((d, .slice A' (k + m) c') :: vs) w0 (putF L i (rowX ex base e size (.slice A' (k + m) c') (k + m) (xs ++ news)))) : SxO P ops Q S fuel listed i' n vs w0 L := fun a w K H _ => by
  refine op_on hi' (hon.on K.env) ?_
  refine append_wp K H ho ht hi hzs hsz hs hL hv hx hr h1 h63 hby hbase fun A' c' w' hv' H' => ?_
  rw [hd]
  exact ⟨hS A' c' w' hv' H', h A' c' hv' _ _ (K.put hdn _) H' (hS A' c' w' hv' H')⟩
/-- A call that grows a row of one's own. -/
theorem callGrow {f : Nat} {args : Array Value} {i base e sz m m' : Nat} {v : Value} {xs xs' : List Value} {ex : List Nat} (hL : nth L i = some (rowX ex base e sz v m xs)) (hv : OwnIn w0 ex v)
    (hc : ∀ w, Hp w0 L w → Calls P f args w fun E w' => ∃ v', E = .returned v' ∧ w'.ownsRow base e sz v' m' xs' ∧ OwnIn w v.ownBlock.toList v' ∧ Outs v.ownBlock.toList w w') :
    ∀ w, Hp w0 L w → Calls P f args w fun E w' => ∃ s : Value, E = .returned s ∧ OwnIn w0 ex s ∧ Hp w0 (putF L i (rowX ex base e sz s m' xs')) w' := fun w H => (hc w H).mono fun E w' ⟨v', he, hown, hin, hos⟩ => by
  have hv' : OwnIn w0 ex v' := fun g hg => (hin g hg).elim (hv g) fun h => .inr (Nat.le_trans H.os.size h)
  have hos2 : Outs (ex ++ v.ownBlock.toList) w w' := hos.mono fun g hg _ => List.mem_append.2 (.inr hg)
  refine ⟨v', he, hv', H.chg hL _ hos2 (rowX_loc _ _ _ _ _ _ _) (fun g hgm => ?_) (fun g hgm => ?_) hown⟩
  · rcases List.mem_append.1 hgm with h' | h'
    · exact ⟨Nat.lt_of_lt_of_le ((H.ok _ (nth_mem hL)).2.1 g (List.mem_append.2 (.inl h'))) hos.size, .inl (List.mem_append.2 (.inl h'))⟩
    · exact ⟨(own_lt hown g h').2, (hin g h').imp (fun h => List.mem_append.2 (.inr h)) id⟩
  · rcases List.mem_append.1 hgm with h' | h'
    · exact .inl (List.mem_append.2 (.inl h'))
    · exact (hv g h').imp (fun h => List.mem_append.2 (.inl h)) id
theorem Hp.toOuts {w : World} (H : Hp w0 L w) (G : List Nat) (hf : allF L fun f => ∀ g ∈ f.fp, g ∈ G ∨ w0.heap.size ≤ g) : Outs G w0 w := H.os.mono fun g hm hlt => by
  obtain ⟨f, hfm, hg⟩ := List.mem_flatMap.1 hm
  rcases hf.mem f hfm g hg with h | h
  · exact h
  · omega
/-- A row of one's own at the start. -/
theorem Hp.row {w : World} {base e sz m : Nat} {v : Value} {xs : List Value} (hown : w.ownsRow base e sz v m xs) : Hp w [rowX v.ownBlock.toList base e sz v m xs] w :=
  (Hp.start w).know _ (rowX_loc _ _ _ _ _ _ _) (fun g hg => ⟨(own_lt hown g (by simpa [rowX] using hg)).2, fun q hq => by cases hq⟩) hown
theorem OwnIn.refl (w : World) (v : Value) : OwnIn w v.ownBlock.toList v := fun g hg => .inl hg
theorem OwnIn.mono {w : World} {ex ex' : List Nat} {v : Value} (h : OwnIn w ex v) (hs : ∀ g ∈ ex, g ∈ ex') : OwnIn w ex' v := fun g hg => (h g hg).imp (hs g) id
theorem OwnIn.wid {w : World} {ex : List Nat} {v : Value} (h : OwnIn w [] v) : OwnIn w ex v := h.mono fun g hg => by cases hg
theorem one_list {l : List Value} (h : l.all (·.oneCell') = true) : ∀ u ∈ l, u.oneCell' = true := List.all_eq_true.1 h
/-- One elder block known at the start; two. -/
theorem Hp.one {w : World} {g : Nat} {t : TypeId} {cs : List Value} (h : Blk w g t cs.toArray) : Hp w [cell g t cs] w :=
  (Hp.start w).know _ (cell_loc _ _ _) (fun b hb => ⟨by rw [List.mem_singleton.1 hb]; exact h.lt, fun q hq => by cases hq⟩) h
theorem Hp.duo {w : World} {g g' : Nat} {t t' : TypeId} {cs cs' : List Value} (h : Blk w g t cs.toArray) (h' : Blk w g' t' cs'.toArray) (hne : g ≠ g') : Hp w [cell g t cs, cell g' t' cs'] w :=
  (Hp.one h').know _ (cell_loc _ _ _) (fun b hb => ⟨by rw [List.mem_singleton.1 hb]; exact h.lt, fun q hq hbq => by
    rw [List.mem_singleton.1 hb, List.mem_singleton.1 hq] at hbq
    exact hne (List.mem_singleton.1 hbq)⟩) h
/-- A block that holds a slice written out reads as it. -/
theorem reads_cell {w : World} {L : List Ft} {i g t sz m : Nat} {cs : List Value} (H : Hp w0 L w) (hi : nth L i = some (cell g t cs)) (hz : cs.length = m * sz) : ∃ B, Reads w B sz (some ⟨g, 0, none⟩) m cs := by
  have hb : Blk w g t cs.toArray := H.get hi
  refine ⟨w.heap.size, by rw [hz], fun _ => ⟨_, rfl, hb.lt, fun j u hu => ?_⟩⟩
  have := hb.cell j
  rw [Addr.add_mid]
  simp at this ⊢
  rw [this]
  simpa using hu
end
end Go.Proofs.Yteiaiilfekojfaa.Sx
