/- What each kind of operation does, as the walk Sx wants it. No program in sight. Conditions: what the operands hold; what the types say. -/
import Derived.Test.YteiaiilfekojfaaSx
import Derived.Shelf.Abstract
import Derived.Great.BuildSlice
import Derived.Laws.StructEq
set_option linter.unusedVariables false
set_option linter.unusedSimpArgs false
namespace Go.Proofs.Yteiaiilfekojfaa.Sx
open Go.RowKit DrawInv

section
variable {P : Program} {ρ : Operand → Value} {o : Oper} {w : World} {vs : Vs}
theorem ex_move {x : Operand} {v : Value} (E : Env vs ρ) (ho : o.op = .move x) (hx : opv vs x = some v) : (execOp ρ o).run P w = .ok (.value v) w := by
  unfold execOp; rw [ho]; simp only [Sem.run_pure, E.ev hx]
theorem ex_assign {x : Operand} {v : Value} (E : Env vs ρ) (ho : o.op = .assign x) (hx : opv vs x = some v) : (execOp ρ o).run P w = .ok (.value v) w := by
  unfold execOp; rw [ho]; simp only [Sem.run_pure, E.ev hx]
theorem ex_pick {c x y : Operand} {t : Bool} {v : Value} (E : Env vs ρ) (ho : o.op = .pick c x y) (hc : opv vs c = some (.bool t)) (hv : opv vs (bif t then x else y) = some v) : (execOp ρ o).run P w = .ok (.value v) w := by
  unfold execOp; rw [ho]; simp only [asBool, E.ev hc, Sem.run_bind, Sem.run_pure, Result.andThen_ok]
  cases t
  · simp only [cond] at hv; simp [E.ev hv]
  · simp only [cond] at hv; simp [E.ev hv]
theorem ex_not {T : TypeId} {x : Operand} {t : Bool} (E : Env vs ρ) (ho : o.op = .unOp .not T x) (hx : opv vs x = some (.bool t)) : (execOp ρ o).run P w = .ok (.value (.bool (!t))) w := by
  unfold execOp; rw [ho]; simp only [E.ev hx, Op.unary, Sem.run_bind, Sem.run_pure, Result.andThen_ok]
theorem ex_extract {x : Operand} {i : Nat} {l : List Value} {v : Value} (E : Env vs ρ) (ho : o.op = .extract x i) (hx : opv vs x = some (.tuple l.toArray)) (hv : l[i]? = some v) : (execOp ρ o).run P w = .ok (.value v) w := by
  unfold execOp; rw [ho]; simp [E.ev hx, Instr.extract, hv]
theorem ex_convInt {s t : TypeId} {x : Operand} {k k' : IntKind} {a z : Int} {d : TypeDesc} (E : Env vs ρ) (ho : o.op = .convert s t x) (hs : P.underlying s = some d) (ht : P.underlying t = some (.int k')) (hx : opv vs x = some (.int k a)) (hz : k'.wrap a = z) : (execOp ρ o).run P w = .ok (.value (.int k' z)) w := by
  unfold execOp; rw [ho]; simp only [E.ev hx, convert, run_underlying hs, run_underlying ht, Sem.run_bind, Sem.run_pure, Result.andThen_ok, Conv.intToInt, hz]
def cmpB (op : BinOp) (a b : Int) : Bool := match op with
  | .eql => a == b
  | .neq => a != b
  | .lss => decide (a < b)
  | .leq => decide (a ≤ b)
  | .gtr => decide (b < a)
  | .geq => decide (b ≤ a)
  | _ => false
def isCmp (op : BinOp) : Bool := match op with
  | .eql | .neq | .lss | .leq | .gtr | .geq => true
  | _ => false
theorem ex_cmp {op : BinOp} {T U : TypeId} {x y : Operand} {k : IntKind} {a b : Int} {t : Bool} (E : Env vs ρ) (ho : o.op = .binOp op T x y U) (hc : isCmp op = true) (hx : opv vs x = some (.int k a)) (hy : opv vs y = some (.int k b)) (ht : cmpB op a b = t) : (execOp ρ o).run P w = .ok (.value (.bool t)) w := by
  unfold execOp; rw [ho]; subst ht
  simp only [E.ev hx, E.ev hy]
  cases op <;> simp [isCmp] at hc <;> simp [eqGuard, binOp, Op.intCmp, cmpB]
theorem ex_add {T U : TypeId} {x y : Operand} {k : IntKind} {a b z : Int} (E : Env vs ρ) (ho : o.op = .binOp .add T x y U) (hx : opv vs x = some (.int k a)) (hy : opv vs y = some (.int k b)) (hz : k.wrap (a + b) = z) : (execOp ρ o).run P w = .ok (.value (.int k z)) w := by
  unfold execOp; rw [ho]; subst hz
  simp [E.ev hx, E.ev hy, eqGuard, binOp, Op.intArith]
theorem ex_sub {T U : TypeId} {x y : Operand} {k : IntKind} {a b z : Int} (E : Env vs ρ) (ho : o.op = .binOp .sub T x y U) (hx : opv vs x = some (.int k a)) (hy : opv vs y = some (.int k b)) (hz : k.wrap (a - b) = z) : (execOp ρ o).run P w = .ok (.value (.int k z)) w := by
  unfold execOp; rw [ho]; subst hz
  simp [E.ev hx, E.ev hy, eqGuard, binOp, Op.intArith]
/-- Strings compared. -/
theorem ex_seql {T U : TypeId} {x y : Operand} {a b : List UInt8} {t : Bool} (E : Env vs ρ) (ho : o.op = .binOp .eql T x y U) (hx : opv vs x = some (.string ⟨a.toArray⟩)) (hy : opv vs y = some (.string ⟨b.toArray⟩)) (ht : decide (a = b) = t) : (execOp ρ o).run P w = .ok (.value (.bool t)) w := by
  unfold execOp; rw [ho]; subst ht
  have h : ∀ l : List UInt8, (⟨l.toArray⟩ : ByteArray).toList = l := fun l => by simp
  have h2 : (a == b) = decide (a = b) := Bool.eq_iff_iff.2 (by simp)
  simp [E.ev hx, E.ev hy, eqGuard, binOp, Op.stringOp, h, h2]
theorem ex_sneq {T U : TypeId} {x y : Operand} {a b : List UInt8} {t : Bool} (E : Env vs ρ) (ho : o.op = .binOp .neq T x y U) (hx : opv vs x = some (.string ⟨a.toArray⟩)) (hy : opv vs y = some (.string ⟨b.toArray⟩)) (ht : (!decide (a = b)) = t) : (execOp ρ o).run P w = .ok (.value (.bool t)) w := by
  unfold execOp; rw [ho]; subst ht
  have h : ∀ l : List UInt8, (⟨l.toArray⟩ : ByteArray).toList = l := fun l => by simp
  have h2 : (a == b) = decide (a = b) := Bool.eq_iff_iff.2 (by simp)
  simp [E.ev hx, E.ev hy, eqGuard, binOp, Op.stringOp, h, h2]
/-- Structs compared: what '==' gives is laid by the caller. -/
theorem ex_aeql {T U : TypeId} {x y : Operand} {a b : Array Value} {t : Bool} (E : Env vs ρ) (ho : o.op = .binOp .eql T x y U) (hg : P.eqGuardType P.depth T = false) (hx : opv vs x = some (.agg a)) (hy : opv vs y = some (.agg b)) (ht : ∀ w, (Op.equal T (.agg a) (.agg b)).run P w = .ok t w) : (execOp ρ o).run P w = .ok (.value (.bool t)) w := by
  unfold execOp; rw [ho]
  simp only [E.ev hx, E.ev hy, Sem.run_bind, run_eqGuard_agg w .eql T x y a b hg, Result.andThen_ok, binOp, ht w, Sem.run_pure]
theorem ex_aneq {T U : TypeId} {x y : Operand} {a b : Array Value} {t : Bool} (E : Env vs ρ) (ho : o.op = .binOp .neq T x y U) (hg : P.eqGuardType P.depth T = false) (hx : opv vs x = some (.agg a)) (hy : opv vs y = some (.agg b)) (ht : ∀ w, (Op.equal T (.agg a) (.agg b)).run P w = .ok (!t) w) : (execOp ρ o).run P w = .ok (.value (.bool t)) w := by
  unfold execOp; rw [ho]
  simp only [E.ev hx, E.ev hy, Sem.run_bind, run_eqGuard_agg w .neq T x y a b hg, Result.andThen_ok, binOp, ht w, Sem.run_pure, Bool.not_not]
theorem ex_lenS {t u : TypeId} {x : Operand} {A : Option Addr} {n c : Nat} (E : Env vs ρ) (ho : o.op = .call { callee := .builtin .len, args := #[x], argTypes := #[t] }) (ht : P.underlying t = some (.slice u)) (hx : opv vs x = some (.slice A n c)) : (execOp ρ o).run P w = .ok (.value (.int .i64 (n : Int))) w := by
  unfold execOp; rw [ho]
  simp [E.ev hx, resolve, invoke, builtin, Builtin.len_, run_underlying ht, goInt]
theorem ex_lenT {t : TypeId} {x : Operand} {l : List UInt8} (E : Env vs ρ) (ho : o.op = .call { callee := .builtin .len, args := #[x], argTypes := #[t] }) (ht : P.underlying t = some .string) (hx : opv vs x = some (.string ⟨l.toArray⟩)) : (execOp ρ o).run P w = .ok (.value (.int .i64 (l.length : Int))) w := by
  unfold execOp; rw [ho]
  have h : (⟨l.toArray⟩ : ByteArray).size = l.length := by simp [ByteArray.size]
  simp [E.ev hx, resolve, invoke, builtin, Builtin.len_, run_underlying ht, goInt, h]
theorem ex_nilCheck {x : Operand} {a : Addr} (E : Env vs ρ) (ho : o.op = .nilCheck x) (hx : opv vs x = some (.pointer (some a))) : (execOp ρ o).run P w = .ok (.value (.pointer (some a))) w := by
  unfold execOp; rw [ho]
  simp [E.ev hx]
/-- A field's place. -/
def fieldAt (P : Program) (s f off : Nat) : Prop := ∃ fs fd m, P.underlying s = some (.struct fs) ∧ fs[f]? = some fd ∧ (P.info? fd.type).map (·.size) = some (m + 1) ∧ fd.offset = off
theorem add_none (g i j : Nat) : (⟨g, i, none⟩ : Addr).add j = ⟨g, i + j, none⟩ := by unfold Addr.add; split <;> simp_all
theorem ex_fieldA {s f off : Nat} {x : Operand} {a : Addr} (E : Env vs ρ) (ho : o.op = .fieldAddr s x f) (hf : fieldAt P s f off) (hx : opv vs x = some (.pointer (some a))) : (execOp ρ o).run P w = .ok (.value (.pointer (some (a.add off)))) w := by
  obtain ⟨fs, fd, m, h1, h2, h3, rfl⟩ := hf
  unfold execOp; rw [ho]
  cases hi : P.info? fd.type with
  | none => rw [hi] at h3; cases h3
  | some i =>
    rw [hi] at h3
    have hm : i.size = m + 1 := Option.some.inj h3
    simp [E.ev hx, Instr.fieldAt, run_underlying h1, h2, Instr.sureAddr, fieldPlace, sizeOf, typeInfo, hi, hm]
theorem ex_field {s f off : Nat} {x : Operand} {g i j : Nat} (E : Env vs ρ) (ho : o.op = .fieldAddr s x f) (hf : fieldAt P s f off) (hx : opv vs x = some (.pointer (some ⟨g, i, none⟩))) (hj : i + off = j) : (execOp ρ o).run P w = .ok (.value (.pointer (some ⟨g, j, none⟩))) w := by
  rw [ex_fieldA E ho hf hx, add_none, hj]
/-- A field of a struct's value. -/
theorem ex_fieldV {s f off : Nat} {x : Operand} {cs : List Value} {v : Value} (E : Env vs ρ) (ho : o.op = .field s x f) (hf : fieldAt P s f off) (hx : opv vs x = some (.agg cs.toArray)) (hv : ∀ fs fd, P.underlying s = some (.struct fs) → fs[f]? = some fd → ∀ w, (part fd.type cs.toArray fd.offset).run P w = .ok v w) : (execOp ρ o).run P w = .ok (.value v) w := by
  obtain ⟨fs, fd, m, h1, h2, h3, rfl⟩ := hf
  unfold execOp; rw [ho]
  simp [E.ev hx, Instr.field, run_underlying h1, h2, asAgg, hv fs fd h1 h2]
/-- Cells of a list. -/
def putL : List Value → Nat → List Value → List Value
  | cs, _, [] => cs
  | cs, o, v :: vs => putL (cs.set o v) (o + 1) vs
theorem putL_is : ∀ (l : List Value) (cs : List Value) (o : Nat), putA cs.toArray o l = (putL cs o l).toArray
  | [], _, _ => rfl
  | v :: l, cs, o => by
    unfold putA putL
    rw [← putL_is l]
    congr 1
    simp
theorem putL_length : ∀ (l : List Value) (cs : List Value) (o : Nat), (putL cs o l).length = cs.length
  | [], _, _ => rfl
  | v :: l, cs, o => by unfold putL; rw [putL_length l]; simp
/-- A struct loaded, or a part of it. -/
theorem ex_load {t u : TypeId} {p : Operand} {g off m : Nat} {cs part : List Value} {d : TypeDesc} (E : Env vs ρ) (hb : Blk w g u cs.toArray) (ho : o.op = .load t p) (hp : opv vs p = some (.pointer (some ⟨g, off, none⟩))) (hu : P.underlying t = some d) (hd : d.isRow = true) (hz : (P.info? t).map (·.size) = some m)
    (hpart : (cs.drop off).take m = part) (hm : part.length = m) : (execOp ρ o).run P w = .ok (.value (.agg part.toArray)) w := by
  refine exec_load p ho (E.ev hp) ?_
  refine blk_part hb off part.toArray ?_ hu hd (by rw [hz, ← hm]; rfl)
  rw [← hpart]
  have hl : ((cs.drop off).take m).length = m := by rw [hpart, hm]
  simp [hl]
/-- One cell loaded. -/
theorem run_load1 {t : TypeId} {a : Addr} {v : Value} {d : TypeDesc} (hc : w.cell? a = some v) (hu : P.underlying t = some d) (hd : d.isRow = false) : (Instr.loadAt t (.pointer (some a))).run P w = .ok v w := by
  have h := run_isAgg_plain hu (by cases d <;> first | rfl | cases hd) w
  simp only [Instr.loadAt, Instr.sureAddr, Sem.run_bind, Sem.run_pure, Result.andThen_ok, loadVar, h]
  simp [hc]
theorem ex_load1 {t u : TypeId} {p : Operand} {g off : Nat} {cs : List Value} {v : Value} {d : TypeDesc} (E : Env vs ρ) (hb : Blk w g u cs.toArray) (ho : o.op = .load t p) (hp : opv vs p = some (.pointer (some ⟨g, off, none⟩))) (hu : P.underlying t = some d) (hd : d.isRow = false) (hv : cs[off]? = some v) : (execOp ρ o).run P w = .ok (.value v) w :=
  exec_load p ho (E.ev hp) (run_load1 (by rw [hb.cell off]; simpa using hv) hu hd)
theorem ex_loadC {t : TypeId} {p : Operand} {a : Addr} {v : Value} {d : TypeDesc} (E : Env vs ρ) (hc : w.cell? a = some v) (ho : o.op = .load t p) (hp : opv vs p = some (.pointer (some a))) (hu : P.underlying t = some d) (hd : d.isRow = false) : (execOp ρ o).run P w = .ok (.value v) w :=
  exec_load p ho (E.ev hp) (run_load1 hc hu hd)
/-- A store into a known block. -/
theorem ex_store {t u : TypeId} {p x : Operand} {g off m : Nat} {cs : List Value} {v : Value} (E : Env vs ρ) (hb : Blk w g u cs.toArray) (ho : o.op = .store t p x) (hp : opv vs p = some (.pointer (some ⟨g, off, none⟩))) (hx : opv vs x = some v) (hz : (P.info? t).map (·.size) = some m) (hm : v.cells.toList.length = m) (hl : Nat.ble (off + m) cs.length = true) (h1 : v.cells.toList.all (·.oneCell') = true) :
    ∃ w', (execOp ρ o).run P w = .ok .skip w' ∧ Blk w' g u (putL cs off v.cells.toList).toArray ∧ w.grownBy w' (some g) := by
  have hs : v.cells.size = m := by rw [← hm]; simp
  refine ⟨w.setCells g off v.cells.toList, exec_store p x ho (E.ev hp) (E.ev hx) ?_, ?_, grown_setCells _ _ (World.grownBy.refl _ _)⟩
  · have := blk_put (P := P) (ty := t) hb off v.cells (by rw [hs]; simpa using hl) (by rw [hz, hs]) h1
    exact this
  · rw [← putL_is]
    exact Blk.setCells _ _ hb
/-- New blocks. -/
theorem ex_alloc {t : TypeId} {z : Value} {cs : List Value} (ho : o.op = .alloc t) (hz : (P.info? t).bind (·.zero) = some z) (hc : z.cells = cs.toArray) : (execOp ρ o).run P w = .ok (.value (.pointer (some ⟨w.heap.size, 0, none⟩))) (w.alloc (.cells cs.toArray t)) := by
  unfold execOp; rw [ho]
  cases hi : P.info? t with
  | none => rw [hi] at hz; cases hz
  | some i =>
    rw [hi] at hz
    have hz : i.zero = some z := hz
    rw [← hc]
    simp [Instr.alloc, zeroValue, typeInfo, hi, hz, newVar, newRow]
theorem ex_box {t : TypeId} {x : Operand} {v : Value} {cs : List Value} (E : Env vs ρ) (ho : o.op = .box t x) (hx : opv vs x = some v) (hc : v.cells = cs.toArray) : (execOp ρ o).run P w = .ok (.value (.pointer (some ⟨w.heap.size, 0, none⟩))) (w.alloc (.cells cs.toArray t)) := by
  unfold execOp; rw [ho, ← hc]
  simp [E.ev hx, Instr.box, newVar, newRow]
def opps (vs : Vs) : List (Nat × Operand) → Option (List (Nat × Value))
  | [] => some []
  | (i, x) :: l => match opv vs x, opps vs l with
    | some v, some r => some ((i, v) :: r)
    | _, _ => none
theorem Env.eps (E : Env vs ρ) : ∀ {l : List (Nat × Operand)} {r : List (Nat × Value)}, opps vs l = some r → l.map (fun p => (p.1, ρ p.2)) = r
  | [], r, h => by cases h; rfl
  | (i, x) :: l, r, h => by
    unfold opps at h
    cases h1 : opv vs x with
    | none => rw [h1] at h; cases h
    | some v =>
      cases h2 : opps vs l with
      | none => rw [h1, h2] at h; cases h
      | some s =>
        rw [h1, h2] at h
        cases h
        simp only [List.map_cons]
        rw [E.ev h1, E.eps h2]
theorem ex_build {t : TypeId} {ps : List (Nat × Operand)} {qs : List (Nat × Value)} {cs : List Value} (E : Env vs ρ) (ho : o.op = .build t ps.toArray) (hq : opps vs ps = some qs) (hb : P.built t qs = some cs.toArray) : (execOp ρ o).run P w = .ok (.value (.agg cs.toArray)) w := by
  unfold execOp; rw [ho]
  have he : (ps.toArray.map fun (i, x) => (i, ρ x)) = qs.toArray := by
    rw [List.map_toArray]; exact congrArg List.toArray (E.eps hq)
  simp only [he, Sem.run_bind, run_build (P := P) w t qs.toArray cs.toArray (by simpa using hb), Result.andThen_ok, Sem.run_pure]
theorem ex_buildSlice {t e : TypeId} {len m : Nat} {ps : List (Nat × Operand)} {qs : List (Nat × Value)} {cs : List Value} {z : Value} (E : Env vs ρ) (ho : o.op = .buildSlice t len ps.toArray) (hq : opps vs ps = some qs) (hu : P.underlying t = some (.slice e)) (hm : (P.info? e).map (·.size) = some m) (hz : (P.info? e).bind (·.zero) = some z)
    (hsmall : Nat.ble (len * m) (2 ^ 24) = true) (hpos : Nat.ble 1 (len * m) = true) (hb : Instr.fill (fun i => some (i * m, m)) ((Array.range (len * m)).map (z.cells[· % z.cells.size]!)) qs = some cs.toArray) :
    (execOp ρ o).run P w = .ok (.value (.slice (some ⟨w.heap.size, 0, none⟩) len len)) (w.alloc (.cells cs.toArray e)) := by
  unfold execOp; rw [ho]
  have he : (ps.toArray.map fun (i, x) => (i, ρ x)) = qs.toArray := by
    rw [List.map_toArray]; exact congrArg List.toArray (E.eps hq)
  cases hi : P.info? e with
  | none => rw [hi] at hz; cases hz
  | some ie =>
    rw [hi] at hz hm
    have hz : ie.zero = some z := hz
    have hm : ie.size = m := Option.some.inj hm
    have h1 : len * m ≤ 2 ^ 24 := by simpa using hsmall
    have h2 : 1 ≤ len * m := by simpa using hpos
    simp only [he, Sem.run_bind, run_buildSlice (P := P) w t e len qs.toArray cs.toArray ie z hu hi hz (by rw [hm]; omega) (by rw [hm]; omega) (by rw [hm]; simpa using hb), Result.andThen_ok, Sem.run_pure]
theorem ex_call {f : FuncId} {args : List Operand} {T : Array TypeId} {xs : List Value} (E : Env vs ρ) (he : Enters P f) (ho : o.op = .call { callee := .value (.func f), args := args.toArray, argTypes := T }) (hx : opvs vs args = some xs) : (execOp ρ o).run P w = .ok (.enter f xs.toArray) w := by
  unfold execOp; rw [ho]
  have ha : args.toArray.map ρ = xs.toArray := by rw [List.map_toArray]; exact congrArg List.toArray (E.evs hx)
  simp only [resolve, ha, E.cs.2 f, Deferred.ofValue, Sem.run_bind, Sem.run_pure, Result.andThen_ok, invoke, Array.empty_append, Array.append_empty]
  exact he _ _
/-- A call of a function's value. -/
theorem ex_callV {f : FuncId} {c : Operand} {args : List Operand} {T : Array TypeId} {xs cap ys : List Value} (E : Env vs ρ) (he : Enters P f) (ho : o.op = .call { callee := .value c, args := args.toArray, argTypes := T }) (hc : opv vs c = some (.func (.func f) #[] cap.toArray)) (hx : opvs vs args = some xs) (hy : xs ++ cap = ys) : (execOp ρ o).run P w = .ok (.enter f ys.toArray) w := by
  unfold execOp; rw [ho]
  have ha : args.toArray.map ρ = xs.toArray := by rw [List.map_toArray]; exact congrArg List.toArray (E.evs hx)
  simp only [resolve, ha, E.ev hc, Deferred.ofValue, Sem.run_bind, Sem.run_pure, Result.andThen_ok, invoke, Array.empty_append]
  rw [← hy, ← List.append_toArray]
  exact he _ _
theorem ex_makeFunc {fn : Fn} {a b : List Operand} {xs ys : List Value} (E : Env vs ρ) (ho : o.op = .makeFunc fn a.toArray b.toArray) (hx : opvs vs a = some xs) (hy : opvs vs b = some ys) : (execOp ρ o).run P w = .ok (.value (.func fn xs.toArray ys.toArray)) w := by
  unfold execOp; rw [ho]
  have ha : a.toArray.map ρ = xs.toArray := by rw [List.map_toArray]; exact congrArg List.toArray (E.evs hx)
  have hb : b.toArray.map ρ = ys.toArray := by rw [List.map_toArray]; exact congrArg List.toArray (E.evs hy)
  simp only [Instr.makeFunc, ha, hb, Sem.run_bind, Sem.run_pure, Result.andThen_ok]
/-- The place of an element. -/
theorem ex_index {t e m : Nat} {x y : Operand} {a : Addr} {n c i : Nat} {k : IntKind} (E : Env vs ρ) (ho : o.op = .indexAddr t x y) (ht : P.underlying t = some (.slice e)) (hz : (P.info? e).map (·.size) = some m) (hx : opv vs x = some (.slice (some a) n c)) (hy : opv vs y = some (.int k (i : Int))) (hi : i < n) : (execOp ρ o).run P w = .ok (.value (.pointer (some (a.add (i * m))))) w := by
  unfold execOp; rw [ho]
  cases hq : P.info? e with
  | none => rw [hq] at hz; cases hz
  | some ie =>
    rw [hq] at hz
    have hz : ie.size = m := Option.some.inj hz
    have hi0 : (0 : Int) ≤ (i : Int) ∧ (i : Int) < (n : Int) := by omega
    simp [E.ev hx, E.ev hy, Instr.indexAt, asIntOf, run_underlying ht, hi, sizeOf, typeInfo, hq, hz]
/-- An element loaded whole. -/
theorem ex_loadR {t : TypeId} {p : Operand} {a : Addr} {cs : List Value} {d : TypeDesc} (E : Env vs ρ) (hs : a.spot = none) (hc : w.rangeAt a.block a.off cs) (ho : o.op = .load t p) (hp : opv vs p = some (.pointer (some a))) (hu : P.underlying t = some d) (hd : d.isRow = true) (hz : (P.info? t).map (·.size) = some cs.length) : (execOp ρ o).run P w = .ok (.value (.agg cs.toArray)) w := by
  refine exec_load p ho (E.ev hp) ?_
  obtain ⟨b, off, sp⟩ := a
  obtain rfl : sp = none := hs
  exact run_loadAt_mid w b off t cs d hc hu hd hz
end
section
variable {P : Program} {ops : Array Oper} {Q Q' : Exit → Act → World → Prop} {n : Nat} {vs : Vs} {w0 : World} {L : List Ft} {o : Oper} {rest : List Oper}
theorem SxL.store {i g t m off : Nat} {u : TypeId} {cs : List Value} {v : Value} {p x : Operand} (hon : GOn ops vs o.guard) (hd : o.dst = none) (ho : o.op = .store u p x) (hp : opv vs p = some (.pointer (some ⟨g, off, none⟩))) (hx : opv vs x = some v) (hi : nth L i = some (cell g t cs)) (hz : (P.info? u).map (·.size) = some m) (hm : v.cells.toList.length = m) (hl : Nat.ble (off + m) cs.length = true) (h1 : v.cells.toList.all (·.oneCell') = true)
    (h : SxL P ops Q rest n vs w0 (putF L i (cell g t (putL cs off v.cells.toList)))) : SxL P ops Q (o :: rest) n vs w0 L :=
  SxL.turn _ hon hd hi (fun ρ w E H => ex_store E (H.get hi) ho hp hx hz hm hl h1) h
/-- A slice written out. -/
theorem SxL.newS {d len e : Nat} {cs : List Value} (hon : GOn ops vs o.guard) (hd : o.dst = some d) (hdn : Nat.blt d n = true)
    (hr : ∀ ρ w, Env vs ρ → Hp w0 L w → (execOp ρ o).run P w = .ok (.value (.slice (some ⟨w.heap.size, 0, none⟩) len len)) (w.alloc (.cells cs.toArray e)))
    (h : ∀ g, w0.heap.size ≤ g → SxL P ops Q rest n ((d, .slice (some ⟨g, 0, none⟩) len len) :: vs) w0 (cell g e cs :: L)) : SxL P ops Q (o :: rest) n vs w0 L := fun a w K H => by
  refine on_list (hon.on K.env) ?_
  unfold Oper.wp
  rw [hr a.eval w K.env H]
  show wpList P ops Q rest (a.put o.dst _) _
  rw [hd]
  refine h w.heap.size H.os.size _ _ (K.put hdn _) (H.add ((Below.refl _ w).alloc (Nat.le_refl _) _) _ (cell_loc _ _ _) (fun g hg => ?_) (Blk.new w e cs.toArray))
  obtain rfl := List.mem_singleton.1 hg
  exact ⟨by rw [World.alloc, Array.size_push]; omega, Nat.le_refl _⟩
end
end Go.Proofs.Yteiaiilfekojfaa.Sx
