/- Texts that the proof of NetPlays leans on, put together (1 of 6). Conditions: each theorem states its own. -/
import Derived.Below
import Derived.Laws.OwnMore
import Derived.Deep.AppendLies
import Derived.Deep.Draws
import Derived.Deep.OwnRows
import Derived.Maps.AppendAt
import Derived.RegionTactic
import Derived.OwnWalk
import Derived.Laws.Rows
import Derived.Laws.AppendOwn
import Derived.ChangeSame
import Derived.Lib.Hide
import Derived.WalkKit
import Derived.OrdersHeld
import Derived.Deep.RegionHeld
import Derived.Deep.MidRow
import Derived.Deep.WholeRow
import Derived.Deep.LoopGhost
import Derived.Shelf.Abstract
import Derived.Great.BuildSlice
import Derived.Laws.StructEq
import Derived.ChangeSlices
import Derived.OpenShut
import Derived.Deep.Slices
import Derived.Deep.Fields
import Derived.Lib.SmallJoins
import Derived.Lib.SliceRun
import Derived.Lib.BitFns
import Derived.Lib.ItoaNum
import Derived.Test.YteiaiilfekojfaaGreatProg
import Derived.Outline
import Derived.LaidEqlPtr
import Derived.Lib.Strings
import Derived.Test.YteiaiilfekojfaaGreatLen64
import Derived.Laws.CopyOwn
import Derived.Lib.AppendStr
import Derived.Deep.DeepMust
import Derived.Laws.ShiftsVarLaws
import Derived.Laws.Bits64
import Derived.Laws.BitsAllLaws
import Derived.Laws.BytesArg
import Derived.Lib.ConvBytes
import Derived.MapKept
import Derived.RangeFuncRecord
import Derived.ChangeKeysEq
import Derived.Deep.RegionHeld3
import Derived.Deep.RegionHeldLaw
import Derived.Deep.DeepCutAuto
import Derived.IntWalk
import Derived.LoopN
import Derived.Deep.RegionWith
import Derived.Deep.QuietTactic
import Derived.BigQuiet
import Derived.Lib.Zigzag
import Derived.ArgAppend
import Derived.TacticsIn
import Derived.Test.YteiaiilfekojfaaGreatRange
import Derived.Shelf.SlSortCmp.InsertionK
import Derived.Shelf.SlSortCmp.WholeK
import Derived.Shelf.SlSortCmp.NoneTotal
section
namespace Go.Proofs.YteiaiilfekojfaaGreat
open Go.RowKit Go.WideShapes Go.ChangeShapes

theorem Dw (a : Addr) (n : Nat) : (a.add n).block = a.block := by unfold Addr.add; split <;> rfl
theorem RZ (a : Addr) (i j : Nat) : (a.add i).add j = a.add (i + j) := by
 unfold Addr.add
 by_cases hi : i = 0 <;> by_cases hj : j = 0 <;> simp [hi, hj, Nat.add_assoc]

def Reads (w : World) (B size : Nat) (A : Option Addr) (n : Nat) (xs : List Value) : Prop :=
 xs.length = n * size ∧ (0 < n → ∃ ad, A = some ad ∧ ad.block < B ∧ ∀ j u, xs[j]? = some u → w.cell? (ad.add j) = some u)

section
variable {w w' : World} {B B' size n : Nat} {A : Option Addr} {xs : List Value}
theorem Reads.none_ : Reads w B size A 0 [] := ⟨by simp, fun h => absurd h (by omega)⟩
theorem Reads.at_ {k : Nat} (h : Reads w B 1 A n xs) (hk : k < n) : ∃ ad u, A = some ad ∧ ad.block < B ∧ xs[k]? = some u ∧ w.cell? (ad.add k) = some u := by
 obtain ⟨ad, e, hb, hc⟩ := h.2 (by omega)
 have hl : k < xs.length := by have := h.1; omega
 exact ⟨ad, xs[k], e, hb, List.getElem?_eq_getElem hl, hc k _ (List.getElem?_eq_getElem hl)⟩
theorem Reads.keep (h : Reads w B size A n xs) (hk : ∀ p : Addr, p.block < B → w'.cell? p = w.cell? p) : Reads w' B size A n xs :=
 ⟨h.1, fun hn => by
  obtain ⟨ad, e, hb, hc⟩ := h.2 hn
  exact ⟨ad, e, hb, fun j u hu => (hk _ (by rw [Dw]; exact hb)).trans (hc j u hu)⟩⟩
theorem Reads.more (h : Reads w B size A n xs) (hB : B ≤ B') : Reads w B' size A n xs :=
 ⟨h.1, fun hn => by
  obtain ⟨ad, e, hb, hc⟩ := h.2 hn
  exact ⟨ad, e, by omega, hc⟩⟩
theorem Reads.below (h : Reads w B size A n xs) (hb : Below B w w') : Reads w' B size A n xs := h.keep fun _ hp => hb.cell hp
theorem Reads.drew (h : Reads w B size A n xs) : Reads w.drew B size A n xs := h
theorem Reads.alloc (h : Reads w B size A n xs) (hB : B ≤ w.heap.size) (o : Obj) : Reads (w.alloc o) B size A n xs := h.keep fun p hp => World.cell?_alloc_lt w o p (by omega)
theorem Reads.setCell (h : Reads w B size A n xs) {p : Addr} (hB : B ≤ p.block) (u : Value) : Reads (w.setCell p u) B size A n xs :=
 h.keep fun q hq => World.cell?_setCell_other w p q u (fun e => by subst e; omega)
theorem Reads.grown (h : Reads w B size A n xs) {row : Option Nat} (hg : w.grownBy w' row) (hB : B ≤ w.heap.size) (hr : ∀ g, row = some g → B ≤ g) : Reads w' B size A n xs :=
 h.keep fun p hp => World.cell?_of_block (hg.block p.block (by omega) (fun e => by have := hr _ e.symm; omega))
theorem Reads.cut (h : Reads w B size A n xs) {k cap : Nat} (hk : k ≤ n) (hc : n ≤ cap) :
  Reads w B size (if cap = k then A else A.map (·.add (k * size))) (n - k) (xs.drop (k * size)) := by
 refine ⟨by rw [List.length_drop, h.1, Nat.sub_mul], fun hn => ?_⟩
 obtain ⟨ad, rfl, hb, hcell⟩ := h.2 (by omega)
 rw [if_neg (by omega)]
 refine ⟨ad.add (k * size), rfl, by rw [Dw]; exact hb, fun j u hu => ?_⟩
 rw [RZ]
 exact hcell _ u (by rw [← hu, List.getElem?_drop])
theorem Reads.of_own {base : Nat} {e : TypeId} {c : Nat} (h : w.ownsRow base e size (.slice A n c) n xs) : Reads w w.heap.size size A n xs := by
 refine ⟨h.1, fun hn => ?_⟩
 obtain ⟨g, cap, hv, _, hlt⟩ := h.form hn
 have hA : A = some ⟨g, 0, none⟩ := by injection hv
 subst hA
 exact ⟨_, rfl, hlt, h.cells (g := g) rfl⟩
end

def Blk (w : World) (g : Nat) (t : TypeId) (cs : Array Value) : Prop := w.heap[g]? = some (.cells cs t (0, 0))

section
variable {w w' : World} {g : Nat} {t : TypeId} {cs : Array Value}
theorem Blk.lt (h : Blk w g t cs) : g < w.heap.size := by
 rcases Nat.lt_or_ge g w.heap.size with hlt | hge
 ·exact hlt
 ·unfold Blk at h; rw [Array.getElem?_eq_none hge] at h; cases h
theorem Blk.cell (h : Blk w g t cs) (i : Nat) : w.cell? ⟨g, i, none⟩ = cs[i]? := cell_of_row w g i cs t (0, 0) h
theorem Blk.frozen (h : Blk w g t cs) (i : Nat) : w.frozen? ⟨g, i, none⟩ = false := by
 unfold Blk at h
 simp [World.frozen?, h]
theorem Blk.new (w : World) (t : TypeId) (cs : Array Value) : Blk (w.alloc (.cells cs t)) w.heap.size t cs := heap_alloc_new w _
theorem Blk.drew (h : Blk w g t cs) : Blk w.drew g t cs := h
theorem Blk.alloc (h : Blk w g t cs) (o : Obj) : Blk (w.alloc o) g t cs := (Below.heap_alloc w o g h.lt).trans h
theorem Blk.set_ (h : Blk w g t cs) (i : Nat) (u : Value) : Blk (w.setCell ⟨g, i, none⟩ u) g t (cs.setIfInBounds i u) := by
 unfold Blk at h ⊢
 simp [World.setCell, Array.getElem?_modify, h]
theorem Blk.far (h : Blk w g t cs) {p : Addr} (hp : g ≠ p.block) (u : Value) : Blk (w.setCell p u) g t cs := (Below.heap_setCell w p u g hp).trans h
theorem Blk.below {B : Nat} (h : Blk w g t cs) (hb : Below B w w') (hg : g < B) : Blk w' g t cs := (hb.block g hg).trans h
theorem Blk.grown {row : Option Nat} (h : Blk w g t cs) (hb : w.grownBy w' row) (hg : some g ≠ row) : Blk w' g t cs := (hb.block g h.lt hg).trans h
end

section
variable {P : Program} (w : World)

theorem KY (base : Nat) (t ty e : TypeId) (i : TypeInfo) (size : Nat) (ht : P.underlying t = some (.slice e)) (hi : P.info? e = some i)
  (v : Value) (n : Nat) (xs : List Value) (hown : w.ownsRow base e size v n xs) (c : Nat) : (Builtin.append_ #[t, t] ty #[v, .slice none 0 c]).run P w = .ok v w := by
 rcases hown.2 with ⟨rfl, rfl⟩ | ⟨g, cap, cur, rfl, _, _, hnc, _⟩
 ·simp [Builtin.append_, run_underlying ht, sizeOf, typeInfo, hi, Builtin.lenOf, Builtin.firstCells]
 ·simp [Builtin.append_, run_underlying ht, sizeOf, typeInfo, hi, Builtin.lenOf, Builtin.firstCells, hnc, storeCells]

theorem Np (base : Nat) (t ty e : TypeId) (i : TypeInfo) (z : Value) (size bytes : Nat) (ht : P.underlying t = some (.slice e)) (hi : P.info? e = some i) (hz : i.zero = some z)
  (hsize : i.size = size) (hby : i.bytes = bytes) (hzs : z.cells.size = size) (hsz : 0 < size)
  (v : Value) (n : Nat) (xs : List Value) (hown : w.ownsRow base e size v n xs)
  (B : Nat) (A : Option Addr) (m c : Nat) (news : List Value) (hr : Reads w B size A m news) (h1 : ∀ u ∈ news, u.oneCell' = true)
  (h63 : n + m ≤ maxLen) (hbytes : (n + m) * bytes ≤ 140737488355328) (hbase : base ≤ w.heap.size) :
  ∃ v' w', (Builtin.append_ #[t, t] ty #[v, .slice A m c]).run P w = .ok v' w' ∧ w'.ownsRow base e size v' (n + m) (xs ++ news) ∧ w.grownBy w' v.ownBlock ∧
   (v'.ownBlock = v.ownBlock ∨ v'.ownBlock = some w.heap.size) := by
 rcases A with _ | ad
 ·have hm : m = 0 := by
   rcases Nat.eq_zero_or_pos m with h0 | h0
   ·exact h0
   ·obtain ⟨ad, h, _⟩ := hr.2 h0
    cases h
  subst hm
  have hn : news = [] := List.eq_nil_of_length_eq_zero (by simpa using hr.1)
  subst hn
  exact ⟨v, w, KY w base t ty e i size ht hi v n xs hown c, by simpa using hown, World.grownBy.refl w _, .inl rfl⟩
 ·have hcells : ∀ j u, news[j]? = some u → w.cell? (ad.add j) = some u := by
   intro j u hu
   rcases Nat.eq_zero_or_pos m with h0 | h0
   ·subst h0
    have hn : news = [] := List.eq_nil_of_length_eq_zero (by simpa using hr.1)
    subst hn
    simp at hu
   ·obtain ⟨ad', h, _, hc⟩ := hr.2 h0
    injection h with h
    subst h
    exact hc j u hu
  obtain ⟨v', w', hrun, h2, h3, _, h5⟩ := run_append_own_at (P := P) w base t ty e i z size bytes ht hi hz hsize hby hzs hsz v n xs hown ad m c news hr.1 hcells h1 h63 hbytes hbase
  exact ⟨v', w', hrun, h2, h3, h5⟩

theorem I1 {o : Oper} {a : Act} {K : Act → World → Prop} {Q : Exit → Act → World → Prop} (s x : Operand) (t : TypeId)
  (ho : o.op = .call { callee := .builtin .append, args := #[s, x], argTypes := #[t, t] })
  (base : Nat) (e : TypeId) (i : TypeInfo) (z : Value) (size bytes : Nat) (ht : P.underlying t = some (.slice e)) (hi : P.info? e = some i) (hz : i.zero = some z)
  (hsize : i.size = size) (hby : i.bytes = bytes) (hzs : z.cells.size = size) (hsz : 0 < size)
  (v : Value) (n : Nat) (xs : List Value) (hs : a.eval s = v) (hown : w.ownsRow base e size v n xs)
  (B : Nat) (A : Option Addr) (m c : Nat) (news : List Value) (hx : a.eval x = .slice A m c) (hr : Reads w B size A m news) (h1 : ∀ u ∈ news, u.oneCell' = true)
  (h63 : n + m ≤ maxLen) (hbytes : (n + m) * bytes ≤ 140737488355328) (hbase : base ≤ w.heap.size)
  (h : ∀ v' w', w'.ownsRow base e size v' (n + m) (xs ++ news) → w.grownBy w' v.ownBlock → (v'.ownBlock = v.ownBlock ∨ v'.ownBlock = some w.heap.size) → K (a.put o.dst v') w') : o.wp P a w K Q := by
 obtain ⟨v', w', hrun, h2, h3, h4⟩ := Np (P := P) w base t o.type e i z size bytes ht hi hz hsize hby hzs hsz v n xs hown B A m c news hr h1 h63 hbytes hbase
 unfold Oper.wp execOp
 simp only [ho, resolve, invoke, builtin, Sem.run_bind, Sem.run_pure, Result.andThen_ok, List.map_toArray, List.map_cons, List.map_nil, hs, hx, hrun]
 exact h v' w' h2 h3 h4

theorem Ej {ops : Array Oper} {rest : List Oper} {o : Oper} {a : Act} {Q : Exit → Act → World → Prop} (hgd : o.guard = none) (s x : Operand) (t : TypeId)
  (ho : o.op = .call { callee := .builtin .append, args := #[s, x], argTypes := #[t, t] })
  (base : Nat) (e : TypeId) (i : TypeInfo) (z : Value) (size bytes : Nat) (ht : P.underlying t = some (.slice e)) (hi : P.info? e = some i) (hz : i.zero = some z)
  (hsize : i.size = size) (hby : i.bytes = bytes) (hzs : z.cells.size = size) (hsz : 0 < size)
  (v : Value) (n : Nat) (xs : List Value) (hs : a.eval s = v) (hown : w.ownsRow base e size v n xs)
  (B : Nat) (A : Option Addr) (m c : Nat) (news : List Value) (hx : a.eval x = .slice A m c) (hr : Reads w B size A m news) (h1 : ∀ u ∈ news, u.oneCell' = true)
  (h63 : n + m ≤ maxLen) (hbytes : (n + m) * bytes ≤ 140737488355328) (hbase : base ≤ w.heap.size)
  (h : ∀ v' w', w'.ownsRow base e size v' (n + m) (xs ++ news) → w.grownBy w' v.ownBlock → (v'.ownBlock = v.ownBlock ∨ v'.ownBlock = some w.heap.size) → wpList P ops Q rest (a.put o.dst v') w') : wpList P ops Q (o :: rest) a w :=
 wpList_plain hgd fun _ hK => I1 w s x t ho base e i z size bytes ht hi hz hsize hby hzs hsz v n xs hs hown B A m c news hx hr h1 h63 hbytes hbase fun v' w' h2 h3 h4 => hK _ _ (h v' w' h2 h3 h4)

theorem DX {ops : Array Oper} {o : Oper} {a : Act} {K : Act → World → Prop} {Q : Exit → Act → World → Prop} {E : Prop} (hgd : o.guard = none) (s x : Operand) (t : TypeId)
  (ho : o.op = .call { callee := .builtin .append, args := #[s, x], argTypes := #[t, t] })
  (base : Nat) (e : TypeId) (i : TypeInfo) (z : Value) (size bytes : Nat) (ht : P.underlying t = some (.slice e)) (hi : P.info? e = some i) (hz : i.zero = some z)
  (hsize : i.size = size) (hby : i.bytes = bytes) (hzs : z.cells.size = size) (hsz : 0 < size)
  (v : Value) (n : Nat) (xs : List Value) (hs : a.eval s = v) (hown : w.ownsRow base e size v n xs)
  (B : Nat) (A : Option Addr) (m c : Nat) (news : List Value) (hx : a.eval x = .slice A m c) (hr : Reads w B size A m news) (h1 : ∀ u ∈ news, u.oneCell' = true)
  (h63 : n + m ≤ maxLen) (hbytes : (n + m) * bytes ≤ 140737488355328) (hbase : base ≤ w.heap.size)
  (h : ∀ v' w', w'.ownsRow base e size v' (n + m) (xs ++ news) → w.grownBy w' v.ownBlock → (v'.ownBlock = v.ownBlock ∨ v'.ownBlock = some w.heap.size) → K (a.put o.dst v') w') :
  if Region.wanted o (yielded ops a.tmps) = true then Oper.wp P o a w K Q else E := by
 have hw : Region.wanted o (yielded ops a.tmps) = true := by simp [Region.wanted, hgd]
 rw [if_pos hw]
 exact I1 w s x t ho base e i z size bytes ht hi hz hsize hby hzs hsz v n xs hs hown B A m c news hx hr h1 h63 hbytes hbase h
end

theorem Uj {a w : World} {row : Option Nat} (h : a.grownBy w row) : a.grownBy w.drew row := ⟨h.os, h.tape, h.output, h.size, h.block⟩
theorem KC {a w : World} {row : Option Nat} (h : a.grownBy w row) (o : Obj) : a.grownBy (w.alloc o) row :=
 ⟨h.os, h.tape, h.output, Nat.le_trans h.size (by simp), fun i hi hne => (Below.heap_alloc w o i (Nat.lt_of_lt_of_le hi h.size)).trans (h.block i hi hne)⟩
theorem FR {a w : World} {g : Nat} (h : a.grownBy w (some g)) {p : Addr} (hp : p.block = g ∨ a.heap.size ≤ p.block) (u : Value) : a.grownBy (w.setCell p u) (some g) :=
 ⟨h.os, h.tape, h.output, by simpa [World.setCell] using h.size, fun i hi hne => (Below.heap_setCell w p u i (by
  rintro rfl
  rcases hp with hp | hp
  ·exact hne (by rw [hp])
  ·omega)).trans (h.block i hi hne)⟩
theorem Gg {a w : World} (h : Below a.heap.size a w) (row : Option Nat) : a.grownBy w row := ⟨h.os, h.tape, h.output, h.size, fun i hi _ => h.block i hi⟩

theorem NS {P : Program} (t e : TypeId) (i : TypeInfo) (z : Value) (ht : P.underlying t = some (.slice e)) (hi : P.info? e = some i) (hz : i.zero = some z)
  (kl kc : IntKind) (n c : Nat) (hnc : n ≤ c) (hbytes : i.bytes * c ≤ 281474976710656) (h63 : c ≤ 9223372036854775807) (w : World) :
  (Instr.makeSlice t (.int kl (n : Int)) (.int kc (c : Int))).run P w = .ok (.slice (some ⟨w.heap.size, 0, none⟩) n c) (w.alloc (.cells (madeCells z.cells (c * i.size)) e)) := by
 have hb : (i.bytes : Int) * (c : Int) ≤ 281474976710656 := by
  have h : ((i.bytes * c : Nat) : Int) ≤ 281474976710656 := by omega
  rwa [Int.natCast_mul] at h
 have hr := run_make (P := P) w t e i z ht hi hz kl kc n c (by omega) (by omega) hb (by omega)
 simp only [Int.toNat_natCast] at hr
 exact hr
section
variable {H : Type} {enc : TypeId × Value → H} {P : Program}
theorem post_of_below {f : Func} {s : ChangeSpec} {K7 fresh handsOn again : Bool} {W W' : World} {args : Array Value} {v : Value} {ds gs : List (DataW H)} {before pa pv : List MemPlace}
  (hW : DataW.Whole enc P f.params.toList s.vars K7 W args.toList ds gs before)
  (hres : ∀ (b : Nat) (sp : Nat → Bool) (hd : Bool), DataW.TrodAll enc P W' b sp hd f.resultTypes.toList (v.resultList f.resultTypes.size) (s.fn H (ds ++ gs)).results [])
  (hargs : ∀ sp : Nat → Bool, (∀ p ∈ before, sp p.block = true) → DataW.TrodAll enc P W' 0 sp true f.params.toList args.toList (s.fn H (ds ++ gs)).args pa)
  (hvars : ∀ sp : Nat → Bool, (∀ p ∈ before, sp p.block = true) → DataW.TrodVars enc P W' sp s.vars (s.fn H (ds ++ gs)).vars pv)
  (hps : before = pa ++ pv) (hb : Below W.heap.size W W')
  (hok : ∀ (j : Nat) (t : TypeId) (r : Value), f.resultTypes[j]? = some t → (v.resultList f.resultTypes.size)[j]? = some r → Value.okWide P W' .any 0 t r) :
  s.post enc P f K7 fresh handsOn again W args v W' := by
 have hlt : ∀ p ∈ before, p.block < W.heap.size := fun p hp => hW.lt p hp
 have hold : ∀ p ∈ before, (fun b => decide (b < W.heap.size)) p.block = true := fun p hp => by simpa using hlt p hp
 refine ⟨ds, gs, before, [], pa, pv, hW, hres _ _ _, hargs _ hold, hvars _ hold, World.keptBut_mono (fun p hp => ⟨hp, ?_⟩) (hb.frame (· ∈ before)), fun _ => ?_⟩
 ·rw [hps, List.mem_append] at hp
  exact Or.inr hp
 ·obtain ⟨_, _, _, _, _, hz, hn⟩ := hW
  refine ⟨hok, _, _, ([] ++ pa) ++ pv, ⟨[] ++ pa, pv, trodAll_append (hargs _ (fun _ _ => rfl)) (hres _ _ _), hvars _ (fun _ _ => rfl), rfl, ?_, ?_⟩, ?_⟩
  ·intro b off hp
   have hin : MemPlace.cell b off ∈ before := by rw [hps]; simpa using hp
   rw [hb.frozen (hlt _ hin)]
   exact hz b off hin
  ·intro ha
   have := hn ha
   rw [hps] at this
   simpa using this
  ·intro p hp _
   rw [hps]
   simpa using hp
end

end Go.Proofs.YteiaiilfekojfaaGreat
end
section
namespace Go.Proofs.YteiaiilfekojfaaGreat.DrawInv
open Go.RowKit

def S0 (o : Oper) : List Tmp := o.op.operands.toList.filterMap fun | .tmp t => some t | _ => none
def LN (ops : Array Oper) (t : Tmp) : Bool := (List.range ops.size).all fun j => match ops[j]? with | some o' => o'.dst != some t | none => true
def fits (md : Region.Mode) (ops : Array Oper) : Bool :=
 (List.range ops.size).all fun i => match ops[i]? with
  | none => true
  | some o => (match o.guard with | none => true | some (j, _) => (match ops[j]? with | some oj => oj.dst.isSome | none => false) && o.after.toList.any fun e => Region.binds md e && e.on == j) && o.after.toList.all (fun e => !Region.binds md e || decide (e.on < i)) &&
   (match o.dst with | none => false | some d => (List.range ops.size).all fun j => j == i || (match ops[j]? with | some o' => o'.dst != some d | none => true)) &&
   (S0 o).all fun t => (o.after.toList.any fun e => Region.binds md e && (match ops[e.on]? with | some o' => o'.dst == some t | none => false)) || LN ops t

section
variable {P : Program} {md : Region.Mode} {ops : Array Oper} {Q : Exit → Act → World → Prop} {V : Nat → Value → World → Prop} {w0 : World} {n : Nat}

theorem PR {t : Tmp} (h : LN ops t = true) (j : Nat) (o' : Oper) (hj : ops[j]? = some o') : o'.dst ≠ some t := by
 unfold LN at h
 have := List.all_eq_true.1 h j (List.mem_range.2 (Array.getElem?_eq_some_iff.1 hj).1)
 rw [hj] at this
 simpa using this
theorem LS (h : fits md ops = true) {i : Nat} {o : Oper} (hi : ops[i]? = some o) :
  (∀ j b, o.guard = some (j, b) → ∃ oj dj, ops[j]? = some oj ∧ oj.dst = some dj ∧ ∃ e ∈ o.after, Region.binds md e = true ∧ e.on = j) ∧ (∀ e ∈ o.after, Region.binds md e = true → e.on < i) ∧ ∃ d, o.dst = some d ∧ (∀ (j : Nat) (o' : Oper), j ≠ i → ops[j]? = some o' → o'.dst ≠ some d) ∧
   ∀ t ∈ S0 o, (∃ e ∈ o.after, Region.binds md e = true ∧ ∃ o', ops[e.on]? = some o' ∧ o'.dst = some t) ∨ (∀ (j : Nat) (o' : Oper), ops[j]? = some o' → o'.dst ≠ some t) := by
 unfold fits at h
 have h1 := List.all_eq_true.1 h i (List.mem_range.2 (Array.getElem?_eq_some_iff.1 hi).1)
 rw [hi] at h1
 simp only [Bool.and_eq_true] at h1
 obtain ⟨⟨⟨hg, he⟩, hd⟩, ht⟩ := h1
 refine ⟨fun j b hjb => ?_, fun e hm hb => (by have h2 := List.all_eq_true.1 he e (by simpa using hm); rw [hb] at h2; simpa using h2), ?_⟩
 ·rw [hjb] at hg
  simp only [Bool.and_eq_true] at hg
  cases ho : ops[j]? with
  | none => rw [ho] at hg; cases hg.1
  | some oj =>
   rw [ho] at hg
   obtain ⟨dj, hdj⟩ := Option.isSome_iff_exists.1 hg.1
   obtain ⟨e, hme, hb⟩ := List.any_eq_true.1 hg.2
   rw [Bool.and_eq_true] at hb
   exact ⟨oj, dj, rfl, hdj, e, by simpa using hme, hb.1, by simpa using hb.2⟩
 cases hdo : o.dst with
 | none => rw [hdo] at hd; cases hd
 | some d =>
  rw [hdo] at hd
  simp only at hd
  refine ⟨d, rfl, fun j o' hne hj => ?_, fun t hm => ?_⟩
  ·have := List.all_eq_true.1 hd j (List.mem_range.2 (Array.getElem?_eq_some_iff.1 hj).1)
   rw [hj] at this
   simpa [hne] using this
  ·have := List.all_eq_true.1 ht t hm
   rcases Bool.or_eq_true _ _ ▸ this with h' | h'
   ·obtain ⟨e, hme, hb⟩ := List.any_eq_true.1 h'
    rw [Bool.and_eq_true] at hb
    cases ho : ops[e.on]? with
    | none => rw [ho] at hb; cases hb.2
    | some o' => rw [ho] at hb; exact .inl ⟨e, by simpa using hme, hb.1, o', ho, by simpa using hb.2⟩
   ·exact .inr (PR h')

def Sm (ρ : Operand → Value) : Prop := (∀ v, ρ (.const v) = v) ∧ (∀ f, ρ (.func f) = .func (.func f) #[] #[])
def Res (P : Program) (V : Value → World → Prop) (w : World) (r : Result Next) : Prop :=
 (∃ v w', r = .ok (.value v) w' ∧ V v w' ∧ Below w.heap.size w w') ∨
 (∃ f args, r = .ok (.enter f args) w ∧ Calls P f args w fun e w' => ∃ v, e = .returned v ∧ V v w' ∧ Below w.heap.size w w')
def On (ops : Array Oper) (ρ : Operand → Value) : Option (Nat × Bool) → Prop
 | none => True
 | some (j, b) => ∃ oj dj, ops[j]? = some oj ∧ oj.dst = some dj ∧ ρ (.tmp dj) = .bool b
def Off (ops : Array Oper) (ρ : Operand → Value) : Option (Nat × Bool) → Prop
 | none => False
 | some (j, b) => ∃ oj dj x, ops[j]? = some oj ∧ oj.dst = some dj ∧ ρ (.tmp dj) = x ∧ x ≠ .bool b
def Sl (P : Program) (ops : Array Oper) (V : Nat → Value → World → Prop) (w0 : World) (o : Oper) : Prop :=
 ∀ d, o.dst = some d → ∀ ρ w, Sm ρ → Below w0.heap.size w0 w → (∀ t ∈ S0 o, V t (ρ (.tmp t)) w) → (∀ j b oj dj, o.guard = some (j, b) → ops[j]? = some oj → oj.dst = some dj → V dj (ρ (.tmp dj)) w) →
  (On ops ρ o.guard ∧ Res P (V d) w ((execOp ρ o).run P w)) ∨ (Off ops ρ o.guard ∧ V d undef w)
theorem T0 {a : Act} {j dj : Nat} {oj : Oper} {b : Bool} (h1 : ops[j]? = some oj) (h2 : oj.dst = some dj) (h3 : a.eval (.tmp dj) = .bool b) : yielded ops a.tmps j = some b := by
 have h4 : a.tmps[dj]? = some (.bool b) := by
  have h : a.tmps.getD dj undef = .bool b := h3
  rw [Array.getD_eq_getD_getElem?] at h
  cases hx : a.tmps[dj]? with
  | none => rw [hx] at h; cases h
  | some x => rw [hx] at h; rw [show x = .bool b from h]
 unfold yielded
 rw [h1]
 simp [h2, h4]
theorem On.wanted {a : Act} {o : Oper} (h : On ops a.eval o.guard) : Region.wanted o (yielded ops a.tmps) = true := by
 unfold Region.wanted
 cases hg : o.guard with
 | none => rfl
 | some p =>
  obtain ⟨j, b⟩ := p
  rw [hg] at h
  obtain ⟨oj, dj, h1, h2, h3⟩ := h
  simp [T0 h1 h2 h3]
theorem Off.wanted {a : Act} {o : Oper} (h : Off ops a.eval o.guard) : Region.wanted o (yielded ops a.tmps) = false := by
 unfold Region.wanted
 cases hg : o.guard with
 | none => rw [hg] at h; exact h.elim
 | some p =>
  obtain ⟨j, b⟩ := p
  rw [hg] at h
  obtain ⟨oj, dj, x, h1, h2, h3, h4⟩ := h
  have hy : yielded ops a.tmps j ≠ some b := by
   intro hy
   unfold yielded at hy
   rw [h1] at hy
   simp only [Option.bind_some, h2] at hy
   cases hx : a.tmps[dj]? with
   | none => rw [hx] at hy; cases hy
   | some u =>
    rw [hx] at hy
    have hu : u = x := by
     have h : a.tmps.getD dj undef = x := h3
     rw [Array.getD_eq_getD_getElem?, hx] at h
     exact h
    subst hu
    cases u with
    | bool c => exact h4 (congrArg _ (Option.some.inj hy))
    | _ => cases hy
  simp [hy]

structure At (ops : Array Oper) (V : Nat → Value → World → Prop) (n : Nat) (w0 : World) (listed : Array Bool) (a : Act) (w : World) : Prop where
 sz : a.tmps.size = n
 df : a.defers = []
 ls : listed.size = ops.size
 bw : Below w0.heap.size w0 w
 base : ∀ k : Nat, (∀ (j : Nat) (o' : Oper), ops[j]? = some o' → o'.dst ≠ some k) → V k (a.eval (.tmp k)) w
 done : ∀ (i : Nat) (o : Oper) (d : Nat), ops[i]? = some o → o.dst = some d → listed.getD i false = true → V d (a.eval (.tmp d)) w

theorem J6 {a : Act} {d k : Tmp} {v : Value} (h : k ≠ d) : (a.put (some d) v).eval (.tmp k) = a.eval (.tmp k) := by
 show (a.tmps.setIfInBounds d v).getD k undef = a.tmps.getD k undef
 simp [Ne.symm h]
theorem ME {a : Act} {d : Tmp} {v : Value} (h : d < a.tmps.size) : (a.put (some d) v).eval (.tmp d) = v := by
 show (a.tmps.setIfInBounds d v).getD d undef = v
 simp [h]
theorem Qi {l : Array Bool} {i j : Nat} {b : Bool} (h : i ≠ j) : (l.setIfInBounds i true).getD j b = l.getD j b := by
 simp [h]

theorem OM (hfit : fits md ops = true) (hV : ∀ (k : Nat) (v : Value) (w w' : World), V k v w → Below w.heap.size w w' → V k v w') (hn : ∀ (i : Nat) (o : Oper) (d : Nat), ops[i]? = some o → o.dst = some d → d < n)
  {listed : Array Bool} {a : Act} {w : World} {i : Nat} {o : Oper} {d : Tmp} (h : At ops V n w0 listed a w) (hi : ops[i]? = some o) (hd : o.dst = some d) {v : Value} {w' : World} (hv : V d v w') (hb : Below w.heap.size w w') :
  At ops V n w0 (listed.setIfInBounds i true) (a.put o.dst v) w' := by
 obtain ⟨_, _, d', hd', hne, _⟩ := LS hfit hi
 obtain rfl : d = d' := by rw [hd] at hd'; exact Option.some.inj hd'
 rw [hd]
 have hdn := hn i o d hi hd
 refine ⟨by rw [← h.sz]; simp [Act.put], h.df, by rw [← h.ls]; simp, h.bw.trans (hb.mono h.bw.size), fun k hk => ?_, fun j o' d' hj hd' hl => ?_⟩
 ·have : k ≠ d := fun e => hk i o hi (by rw [e]; exact hd)
  rw [J6 this]
  exact hV k _ w w' (h.base k hk) hb
 ·by_cases hji : j = i
  ·subst hji
   rw [hi] at hj; cases hj
   rw [hd] at hd'; cases hd'
   rw [ME (by rw [h.sz]; exact hdn)]
   exact hv
  ·have : d' ≠ d := fun e => hne j o' hji hj (by rw [hd', e])
   rw [J6 this]
   rw [Qi (Ne.symm hji)] at hl
   exact hV d' _ w w' (h.done j o' d' hj hd' hl) hb

theorem O1 {l : Array Bool} {i : Nat} (h : l.getD i true = false) : (l.setIfInBounds i true).toList.count false + 1 = l.toList.count false := by
 have hi : i < l.size := by
  rcases Nat.lt_or_ge i l.size with h' | h'
  ·exact h'
  ·simp [Array.getElem?_eq_none h'] at h
 have hv : l[i] = false := by simpa [hi] using h
 rw [Array.toList_setIfInBounds]
 have e : l.toList = l.toList.take i ++ false :: l.toList.drop (i + 1) := by
  have h1 : i < l.toList.length := by simpa using hi
  have h2 := List.drop_eq_getElem_cons h1
  have h3 : l.toList[i] = false := by simpa using hv
  rw [h3] at h2
  rw [← h2, List.take_append_drop]
 rw [List.set_eq_take_append_cons_drop, if_pos (by simpa using hi)]
 conv => rhs; rw [e]
 simp only [List.count_append, List.count_cons]
 simp
 omega

theorem XD (hfit : fits md ops = true) (hV : ∀ (k : Nat) (v : Value) (w w' : World), V k v w → Below w.heap.size w w' → V k v w') (hn : ∀ (i : Nat) (o : Oper) (d : Nat), ops[i]? = some o → o.dst = some d → d < n) (hst : ∀ o ∈ ops.toList, Sl P ops V w0 o)
  (hfin : ∀ (a : Act) (w : World), a.tmps.size = n → a.defers = [] → Below w0.heap.size w0 w → (∀ k, V k (a.eval (.tmp k)) w) → Q .normal a w) :
  ∀ (fuel : Nat) (listed : Array Bool) (a : Act) (w : World), At ops V n w0 listed a w → listed.toList.count false = fuel → wpAny P md ops Q fuel listed a w := by
 have hend : ∀ (listed : Array Bool) (a : Act) (w : World), At ops V n w0 listed a w → Region.ready md ops listed = [] → Q .normal a w := by
  intro listed a w h hr
  have hall : ∀ i : Nat, i < ops.size → listed.getD i false = true := by
   intro i
   induction i using Nat.strongRecOn with
   | _ i ih =>
    intro hi
    cases hl : listed.getD i false with
    | true => rfl
    | false =>
     exfalso
     have ho : ops[i]? = some ops[i] := Array.getElem?_eq_getElem hi
     have hu : listed.getD i true = false := by
      have : i < listed.size := by rw [h.ls]; exact hi
      simp [this] at hl ⊢
      exact hl
     have : i ∈ Region.ready md ops listed := mem_ready.2 ⟨hu, ops[i], ho, fun e he hbe => by
      have hlt := (LS hfit ho).2.1 e he hbe
      exact ih e.on hlt (by omega)⟩
     rw [hr] at this
     cases this
  refine hfin a w h.sz h.df h.bw fun k => ?_
  by_cases hk : ∃ (j : Nat) (o' : Oper), ops[j]? = some o' ∧ o'.dst = some k
  ·obtain ⟨j, o', hj, hd⟩ := hk
   exact h.done j o' k hj hd (hall j (Array.getElem?_eq_some_iff.1 hj).1)
  ·exact h.base k fun j o' hj hd => hk ⟨j, o', hj, hd⟩
 intro fuel
 induction fuel with
 | zero =>
  intro listed a w h hc
  have hr : Region.ready md ops listed = [] := by
   refine List.eq_nil_iff_forall_not_mem.2 fun i hi => ?_
   have h0 := (mem_ready.1 hi).1
   have := O1 h0
   omega
  exact ⟨hr, hend listed a w h hr⟩
 | succ fuel ih =>
  intro listed a w h hc
  refine ⟨hend listed a w h, fun i hi => ?_⟩
  obtain ⟨hu, o, ho, hall⟩ := mem_ready.1 hi
  obtain ⟨hgs, _, d, hd, _, hts⟩ := LS hfit ho
  have hcs := O1 hu
  have hstep := hst o (by simpa using Array.mem_of_getElem? ho) d hd a.eval w ⟨fun _ => rfl, fun _ => rfl⟩ h.bw (fun t ht => by
   rcases hts t ht with ⟨e, he, hb, o', ho', hd'⟩ | hnb
   ·exact h.done e.on o' t ho' hd' (hall e he hb)
   ·exact h.base t hnb) (fun j b oj dj hjb hoj hdj => by
    obtain ⟨oj', dj', hoj', hdj', e, he, hb, hej⟩ := hgs j b hjb
    exact h.done j oj dj hoj hdj (hej ▸ hall e he hb))
  unfold wpOp
  rw [ho]
  simp only
  rcases hstep with ⟨hon, hstep⟩ | ⟨hoff, hvu⟩
  rotate_left
  ·rw [if_neg (by rw [hoff.wanted]; decide)]
   exact ih _ _ _ (OM hfit hV hn h ho hd hvu (Below.refl _ w)) (by omega)
  rw [if_pos hon.wanted]
  refine .inl ?_
  unfold Oper.wp
  rcases hstep with ⟨v, w', hr, hv, hb⟩ | ⟨f, args, hr, hc2⟩
  ·rw [hr]
   exact ih _ _ _ (OM hfit hV hn h ho hd hv hb) (by omega)
  ·rw [hr, Oper.upon_enter]
   refine hc2.mono fun e w' he => ?_
   obtain ⟨v, rfl, hv, hb⟩ := he
   exact ih _ _ _ (OM hfit hV hn h ho hd hv hb) (by omega)

def Steps (P : Program) (ops : Array Oper) (V : Nat → Value → World → Prop) (w0 : World) : List Oper → Prop
 | [] => True
 | o :: l => Sl P ops V w0 o ∧ Steps P ops V w0 l
theorem Steps.all {l : List Oper} (h : Steps P ops V w0 l) : ∀ o ∈ l, Sl P ops V w0 o := by
 induction l with
 | nil => intro o ho; cases ho
 | cons x l ih =>
  intro o ho
  rcases List.mem_cons.1 ho with rfl | ho
  ·exact h.1
  ·exact ih h.2 o ho
theorem Rb {id : Nat} {a : Act} {w : World} (hm : P.follows .mixedOrders = true) (V : Nat → Value → World → Prop) (bs : List Nat) (hfit : fits .any ops = true) (hn : (ops.toList.all fun o => match o.dst with | some d => decide (d < a.tmps.size) | none => true) = true) (hdf : a.defers = [])
  (hbs : (List.range a.tmps.size).filter (LN ops) = bs)
  (hV : ∀ (k : Nat) (v : Value) (w w' : World), V k v w → Below w.heap.size w w' → V k v w') (h0 : ∀ k ∈ bs, V k (a.eval (.tmp k)) w.drew) (hout : ∀ k, a.tmps.size ≤ k → V k undef w.drew) (hst : Steps P ops V w.drew ops.toList)
  (hfin : ∀ (a' : Act) (w' : World), a'.tmps.size = a.tmps.size → a'.defers = [] → Below w.drew.heap.size w.drew w' → (∀ k, V k (a'.eval (.tmp k)) w') → Q .normal a' w') : (Code.region id ops true).wp P Q a w := by
 refine wp_region_any hm ?_
 refine XD (V := V) (n := a.tmps.size) (w0 := w.drew) hfit hV (fun i o d hi hd => ?_) hst.all hfin _ _ _ _ ⟨rfl, hdf, by simp, Below.refl _ _, fun k hk => ?_, fun i o d hi hd hl => ?_⟩ ?_
 ·have := List.all_eq_true.1 hn o (by simpa using Array.mem_of_getElem? hi)
  rw [hd] at this
  exact of_decide_eq_true this
 ·rcases Nat.lt_or_ge k a.tmps.size with hlt | hge
  ·refine h0 k ?_
   rw [← hbs]
   refine List.mem_filter.2 ⟨List.mem_range.2 hlt, List.all_eq_true.2 fun j _ => ?_⟩
   cases hj : ops[j]? with
   | none => rfl
   | some o' => simpa using hk j o' hj
  ·have e : a.eval (.tmp k) = undef := by
    show a.tmps.getD k undef = undef
    simp [Array.getElem?_eq_none hge]
   rw [e]
   exact hout k hge
 ·rw [Array.getD_eq_getD_getElem?, Array.getElem?_replicate] at hl
  split at hl <;> cases hl
 ·simp
theorem US (a : Act) (n : Nat) (h : a.tmps.size = n) (hd : a.defers = []) : a = ⟨((List.range n).map fun k => a.eval (.tmp k)).toArray, []⟩ := by
 obtain ⟨tm, ds⟩ := a
 obtain rfl : ds = [] := hd
 congr 1
 refine Array.ext (by simpa using h) fun i h1 h2 => ?_
 simp [Act.eval, h1]
end
end Go.Proofs.YteiaiilfekojfaaGreat.DrawInv
end
section
namespace Go.Proofs.YteiaiilfekojfaaGreat.DrawInv
open Go.RowKit

structure Outs (S : List Nat) (w w' : World) : Prop where
 os : w'.os = w.os
 tape : w'.tape = w.tape
 output : w'.output = w.output
 size : w.heap.size ≤ w'.heap.size
 block : ∀ k, k < w.heap.size → k ∉ S → w'.heap[k]? = w.heap[k]?
theorem Outs.refl (S : List Nat) (w : World) : Outs S w w := ⟨rfl, rfl, rfl, Nat.le_refl _, fun _ _ _ => rfl⟩
theorem Outs.trans {S : List Nat} {a b c : World} (h : Outs S a b) (k : Outs S b c) : Outs S a c :=
 ⟨k.os.trans h.os, k.tape.trans h.tape, k.output.trans h.output, Nat.le_trans h.size k.size, fun i hi hn => (k.block i (Nat.lt_of_lt_of_le hi h.size) hn).trans (h.block i hi hn)⟩
theorem Outs.of_below {S : List Nat} {w w' : World} (h : Below w.heap.size w w') : Outs S w w' := ⟨h.os, h.tape, h.output, h.size, fun k hk _ => h.block k hk⟩
theorem Outs.of_grown {S : List Nat} {w w' : World} {g : Nat} (h : w.grownBy w' (some g)) (hg : g ∈ S) : Outs S w w' := ⟨h.os, h.tape, h.output, h.size, fun k hk hn => h.block k hk (fun e => hn (by cases e; exact hg))⟩
theorem Outs.below {S : List Nat} {w w' : World} {B : Nat} (h : Outs S w w') (hB : B ≤ w.heap.size) (hS : ∀ g ∈ S, B ≤ g) : Below B w w' := ⟨h.os, h.tape, h.output, h.size, fun k hk => h.block k (by omega) (fun hm => by have := hS k hm; omega)⟩
theorem Outs.cell {S : List Nat} {w w' : World} {p : Addr} (h : Outs S w w') (hp : p.block < w.heap.size) (hS : p.block ∉ S) : w'.cell? p = w.cell? p := World.cell?_of_block (h.block _ hp hS)
theorem Outs.grown {w w' : World} {g : Nat} (h : Outs [g] w w') : w.grownBy w' (some g) := ⟨h.os, h.tape, h.output, h.size, fun k hk hn => h.block k hk (fun hm => hn (by rw [List.mem_singleton.1 hm]))⟩

abbrev Eff := Nat × Nat × TypeId × Array Value × (Array Value → World → Prop)
def WE (w : World) (g : Nat) (t : TypeId) (New : Array Value → World → Prop) : Prop := ∃ cs, New cs w ∧ Blk w g t cs
section
variable {P : Program} {md : Region.Mode} {ops : Array Oper} {Q : Exit → Act → World → Prop} {V : Nat → Value → World → Prop} {w0 : World} {n : Nat} {es : List Eff} {S : List Nat}
def YS (P : Program) (g : Nat) (t : TypeId) (new : Array Value → World → Prop) (V : Value → World → Prop) (w : World) (r : Result Next) : Prop :=
 (∃ v w', (r = .ok (.value v) w' ∨ (v = undef ∧ r = .ok .skip w')) ∧ V v w' ∧ WE w' g t new ∧ w.grownBy w' (some g)) ∨
 (∃ f args, r = .ok (.enter f args) w ∧ Calls P f args w fun e w' => ∃ v, e = .returned v ∧ V v w' ∧ WE w' g t new ∧ w.grownBy w' (some g))
def XP (P : Program) (ops : Array Oper) (V : Nat → Value → World → Prop) (w0 : World) (S : List Nat) (es : List Eff) (i : Nat) (o : Oper) : Prop :=
 ∀ ρ w, Sm ρ → Outs S w0 w → (∀ t ∈ S0 o, V t (ρ (.tmp t)) w) → (∀ j b oj dj, o.guard = some (j, b) → ops[j]? = some oj → oj.dst = some dj → V dj (ρ (.tmp dj)) w) →
  match es.lookup i with
  | none => ∀ d, o.dst = some d → (On ops ρ o.guard ∧ Res P (V d) w ((execOp ρ o).run P w)) ∨ (Off ops ρ o.guard ∧ V d undef w)
  | some (g, t, old, new) => Blk w g t old → On ops ρ o.guard ∧ YS P g t new (fun v w' => ∀ d, o.dst = some d → V d v w') w ((execOp ρ o).run P w)
def StepsS (P : Program) (ops : Array Oper) (V : Nat → Value → World → Prop) (w0 : World) (S : List Nat) (es : List Eff) : Nat → List Oper → Prop
 | _, [] => True
 | i, o :: l => XP P ops V w0 S es i o ∧ StepsS P ops V w0 S es (i + 1) l
theorem StepsS.all : ∀ {l : List Oper} {i : Nat}, StepsS P ops V w0 S es i l → ∀ (j : Nat) (o : Oper), l[j]? = some o → XP P ops V w0 S es (i + j) o
 | [], _, _, j, o, h => by simp at h
 | x :: l, i, hs, 0, o, h => by simp at h; subst h; exact hs.1
 | x :: l, i, hs, j + 1, o, h => by
  rw [show i + (j + 1) = i + 1 + j by omega]
  exact StepsS.all hs.2 j o (by simpa using h)
theorem RD {ρ : Operand → Value} {w w' : World} {ty : TypeId} {o : Oper} (p x : Operand) (ho : o.op = .store ty p x) {pv xv : Value} (hp : ρ p = pv) (hx : ρ x = xv) (hrun : (Instr.storeAt ty pv xv).run P w = .ok () w') : (execOp ρ o).run P w = .ok .skip w' := by
 unfold execOp
 simp only [ho, hp, hx, Sem.run_bind, Sem.run_pure, Result.andThen_ok, hrun]
theorem JZ {ρ : Operand → Value} {w : World} {ty : TypeId} {o : Oper} (p : Operand) (ho : o.op = .load ty p) {pv v : Value} (hp : ρ p = pv) (hrun : (Instr.loadAt ty pv).run P w = .ok v w) : (execOp ρ o).run P w = .ok (.value v) w := by
 unfold execOp
 simp only [ho, hp, Sem.run_bind, Sem.run_pure, Result.andThen_ok, hrun]
end
end Go.Proofs.YteiaiilfekojfaaGreat.DrawInv
end
section
namespace Go.Proofs.YteiaiilfekojfaaGreat
open Go.RowKit

section
variable {P : Program} {w w' : World} {g : Nat} {t ty : TypeId} {cs old cells : Array Value} {d : TypeDesc}
theorem AM (h : Blk w g t cs) (hu : P.underlying ty = some d) (hd : d.isRow = true) (hi : (P.info? ty).map (·.size) = some cs.size) : (loadVar ty ⟨g, 0, none⟩).run P w = .ok (.agg cs) w :=
 run_loadVar_row w g t ty cs (0, 0) d h hu (by cases d <;> first | rfl | cases hd) hi
theorem W5 (h : Blk w g t cs) (o : Nat) (part : Array Value) (hp : (cs.extract o (o + part.size)).toList = part.toList) (hu : P.underlying ty = some d) (hd : d.isRow = true) (hi : (P.info? ty).map (·.size) = some part.size) : (Instr.loadAt ty (.pointer (some ⟨g, o, none⟩))).run P w = .ok (.agg part) w := by
 have hr := World.rangeAt_of_block (w := w) (b := g) (C := cs) (t := t) (fr := (0, 0)) h o part.size
 rw [hp] at hr
 have := run_loadAt_mid (P := P) w g o ty part.toList d hr hu hd (by rw [hi]; simp)
 simpa using this
theorem UQ (h : Blk w g t cs) {o n : Nat} (ho : o + n ≤ cs.size) : w.there g o n := fun j hj => by
 have hlt : o + j < cs.size := by omega
 exact ⟨by rw [h.cell (o + j), Array.getElem?_eq_getElem hlt]; rfl, h.frozen _⟩
theorem XA (h : Blk w g t cs) (o : Nat) (part : Array Value) (ho : o + part.size ≤ cs.size) (hi : (P.info? ty).map (·.size) = some part.size) (h1 : part.toList.all (·.oneCell') = true) : (Instr.storeAt ty (.pointer (some ⟨g, o, none⟩)) (.agg part)).run P w = .ok () (w.setCells g o part.toList) :=
 run_storeAt_mid w g o ty part (UQ h ho) hi (by rw [← Array.all_toList]; exact h1)
def WS : Array Value → Nat → List Value → Array Value
 | cs, _, [] => cs
 | cs, o, v :: vs => WS (cs.setIfInBounds o v) (o + 1) vs
theorem Blk.setCells : ∀ (vs : List Value) {w : World} {cs : Array Value} (o : Nat), Blk w g t cs → Blk (w.setCells g o vs) g t (WS cs o vs)
 | [], _, _, _, h => h
 | v :: vs, _, _, o, h => Blk.setCells vs (o + 1) (h.set_ o v)
theorem FC : ∀ (vs : List Value) {a w : World} (o : Nat), a.grownBy w (some g) → a.grownBy (w.setCells g o vs) (some g)
 | [], _, _, _, h => h
 | v :: vs, _, _, o, h => FC vs (o + 1) (FR h (p := ⟨g, o, none⟩) (.inl rfl) v)
end
end Go.Proofs.YteiaiilfekojfaaGreat
end
section
set_option linter.unusedVariables false
set_option linter.unusedSimpArgs false
namespace Go.Proofs.YteiaiilfekojfaaGreat.Sx
open Go.RowKit DrawInv

abbrev Vs := List (Nat × Value)
def look : Vs → Nat → Option Value
 | [], _ => none
 | (a, v) :: l, k => bif Nat.beq a k then some v else look l k
def opv (vs : Vs) : Operand → Option Value
 | .tmp k => look vs k
 | .const v => some v
 | .func f => some (.func (.func f) #[] #[])
 | .global _ => none
structure Env (vs : Vs) (ρ : Operand → Value) : Prop where
 cs : Sm ρ
 vs : ∀ k v, look vs k = some v → ρ (.tmp k) = v
theorem Env.ev {vs : Vs} {ρ : Operand → Value} (E : Env vs ρ) {x : Operand} {v : Value} (h : opv vs x = some v) : ρ x = v := by
 cases x with
 | tmp k => exact E.vs k v h
 | const u => exact (E.cs.1 u).trans (Option.some.inj h)
 | func f => exact (E.cs.2 f).trans (Option.some.inj h)
 | global g => cases h
def Nv (vs : Vs) : List Operand → Option (List Value)
 | [] => some []
 | x :: l => match opv vs x, Nv vs l with
  | some v, some r => some (v :: r)
  | _, _ => none
theorem Env.evs {vs : Vs} {ρ : Operand → Value} (E : Env vs ρ) : ∀ {l : List Operand} {r : List Value}, Nv vs l = some r → l.map ρ = r
 | [], r, h => by cases h; rfl
 | x :: l, r, h => by
  unfold Nv at h
  cases h1 : opv vs x with
  | none => rw [h1] at h; cases h
  | some v =>
   cases h2 : Nv vs l with
   | none => rw [h1, h2] at h; cases h
   | some s =>
    rw [h1, h2] at h
    cases h
    rw [List.map_cons, E.ev h1, E.evs h2]
structure Kn (n : Nat) (vs : Vs) (a : Act) : Prop where
 sz : a.tmps.size = n
 df : a.defers = []
 vs : ∀ k v, look vs k = some v → a.eval (.tmp k) = v
theorem Kn.env {n : Nat} {vs : Vs} {a : Act} (K : Kn n vs a) : Env vs a.eval := ⟨⟨fun _ => rfl, fun _ => rfl⟩, K.vs⟩
theorem Kn.put {n : Nat} {vs : Vs} {a : Act} (K : Kn n vs a) {d : Nat} (hd : Nat.blt d n = true) (v : Value) : Kn n ((d, v) :: vs) (a.put (some d) v) := by
 have hd : d < n := by simpa [Nat.blt_eq] using hd
 refine ⟨by rw [← K.sz]; simp [Act.put], K.df, fun k x h => ?_⟩
 unfold look at h
 cases hb : Nat.beq d k with
 | true =>
  rw [hb] at h
  obtain rfl := Nat.eq_of_beq_eq_true hb
  cases h
  exact ME (by rw [K.sz]; exact hd)
 | false =>
  rw [hb] at h
  have hne : k ≠ d := fun e => Nat.ne_of_beq_eq_false hb e.symm
  rw [J6 hne]
  exact K.vs k x h
def Sub (vs' vs : Vs) : Prop := match vs' with
 | [] => True
 | p :: r => look vs p.1 = some p.2 ∧ Sub r vs
theorem Sub.look {vs vs' : Vs} (h : Sub vs' vs) {k : Nat} {v : Value} (hk : Sx.look vs' k = some v) : Sx.look vs k = some v := by
 induction vs' with
 | nil => cases hk
 | cons p r ih =>
  obtain ⟨a, u⟩ := p
  unfold Sx.look at hk
  cases hb : Nat.beq a k with
  | true =>
   rw [hb] at hk
   obtain rfl := Nat.eq_of_beq_eq_true hb
   cases hk
   exact h.1
  | false => rw [hb] at hk; exact ih h.2 hk
theorem Kn.sub {n : Nat} {vs vs' : Vs} {a : Act} (K : Kn n vs a) (h : Sub vs' vs) : Kn n vs' a := ⟨K.sz, K.df, fun k v hk => K.vs k v (h.look hk)⟩
def Wi (i : Nat) : List Value → Vs
 | [] => []
 | v :: l => (i, v) :: Wi (i + 1) l
theorem Oq : ∀ (l : List Value) (i k : Nat) (v : Value), look (Wi i l) k = some v → i ≤ k ∧ l[k - i]? = some v
 | [], _, _, _, h => by cases h
 | x :: l, i, k, v, h => by
  unfold Wi look at h
  cases hb : Nat.beq i k with
  | true =>
   rw [hb] at h
   obtain rfl := Nat.eq_of_beq_eq_true hb
   cases h
   exact ⟨Nat.le_refl _, by simp⟩
  | false =>
   rw [hb] at h
   obtain ⟨h1, h2⟩ := Oq l (i + 1) k v h
   refine ⟨by omega, ?_⟩
   rw [show k - i = (k - (i + 1)) + 1 by omega]
   simpa using h2
theorem Kn.enter {n : Nat} (args : List Value) (h : args.length ≤ n) : Kn n (Wi 0 args) { tmps := args.toArray ++ Array.replicate (n - args.toArray.size) undef, defers := [] } := by
 refine ⟨by simp; omega, rfl, fun k v hk => ?_⟩
 obtain ⟨_, h2⟩ := Oq args 0 k v hk
 show (args.toArray ++ Array.replicate (n - args.toArray.size) undef).getD k undef = v
 have h3 : k < args.length := (List.getElem?_eq_some_iff.1 h2).1
 rw [Array.getD_eq_getD_getElem?, Array.getElem?_append_left (by simpa using h3)]
 simp at h2 ⊢
 rw [h2]
 rfl

structure Ft where
 fp : List Nat
 φ : World → Prop
def Ft.Loc (f : Ft) : Prop := ∀ w w' : World, (∀ g ∈ f.fp, w'.heap[g]? = w.heap[g]?) → f.φ w → f.φ w'
structure Hp (w0 : World) (L : List Ft) (w : World) : Prop where
 os : Outs (L.flatMap (·.fp)) w0 w
 dj : L.Pairwise fun p q => ∀ g ∈ p.fp, g ∉ q.fp
 ok : ∀ p ∈ L, p.Loc ∧ (∀ g ∈ p.fp, g < w.heap.size) ∧ p.φ w
def nth : List Ft → Nat → Option Ft
 | [], _ => none
 | f :: _, 0 => some f
 | _ :: l, i + 1 => nth l i
def putF : List Ft → Nat → Ft → List Ft
 | [], _, _ => []
 | _ :: l, 0, f => f :: l
 | x :: l, i + 1, f => x :: putF l i f
theorem EU : ∀ {L : List Ft} {i : Nat} {f : Ft}, nth L i = some f → f ∈ L
 | f :: l, 0, _, h => by cases h; exact List.mem_cons_self ..
 | x :: l, i + 1, f, h => List.mem_cons_of_mem _ (EU (L := l) h)
theorem J2 : ∀ {L : List Ft} {i : Nat} {f x : Ft}, x ∈ putF L i f → x = f ∨ x ∈ L
 | [], _, _, _, h => by cases h
 | y :: l, 0, f, x, h => by
  rcases List.mem_cons.1 h with rfl | h
  ·exact .inl rfl
  ·exact .inr (List.mem_cons_of_mem _ h)
 | y :: l, i + 1, f, x, h => by
  rcases List.mem_cons.1 h with rfl | h
  ·exact .inr (List.mem_cons_self ..)
  ·exact (J2 h).imp id (List.mem_cons_of_mem _)
theorem Hp.start (w : World) : Hp w [] w := ⟨Outs.refl _ _, .nil, fun _ h => by cases h⟩
theorem Hp.get {w0 w : World} {L : List Ft} (H : Hp w0 L w) {i : Nat} {f : Ft} (h : nth L i = some f) : f.φ w := (H.ok f (EU h)).2.2
theorem _root_.Go.Proofs.YteiaiilfekojfaaGreat.DrawInv.Outs.mono {S S' : List Nat} {w w' : World} (h : Outs S w w') (hs : ∀ g ∈ S, g < w.heap.size → g ∈ S') : Outs S' w w' := ⟨h.os, h.tape, h.output, h.size, fun k hk hn => h.block k hk fun hm => hn (hs k hm hk)⟩
theorem _root_.Go.Proofs.YteiaiilfekojfaaGreat.DrawInv.Outs.then_ {S T : List Nat} {a b c : World} (h : Outs S a b) (k : Outs T b c) (hT : ∀ g ∈ T, g < a.heap.size → g ∈ S) : Outs S a c :=
 ⟨k.os.trans h.os, k.tape.trans h.tape, k.output.trans h.output, Nat.le_trans h.size k.size, fun i hi hn => (k.block i (Nat.lt_of_lt_of_le hi h.size) fun hm => hn (hT i hm hi)).trans (h.block i hi hn)⟩
theorem Hp.below {w0 w w' : World} {L : List Ft} (H : Hp w0 L w) (hb : Below w.heap.size w w') : Hp w0 L w' :=
 ⟨H.os.then_ (Outs.of_below (S := []) hb) (fun _ h => by cases h), H.dj, fun p hp => by
  obtain ⟨h1, h2, h3⟩ := H.ok p hp
  exact ⟨h1, fun g hg => Nat.lt_of_lt_of_le (h2 g hg) hb.size, h1 w w' (fun g hg => hb.block g (h2 g hg)) h3⟩⟩
theorem Hp.add {w0 w w' : World} {L : List Ft} (H : Hp w0 L w) (hb : Below w.heap.size w w') (f : Ft) (hl : f.Loc) (hfp : ∀ g ∈ f.fp, g < w'.heap.size ∧ w.heap.size ≤ g) (hf : f.φ w') : Hp w0 (f :: L) w' := by
 have h := H.below hb
 refine ⟨h.os.mono fun g hg _ => by simp only [List.flatMap_cons, List.mem_append]; exact .inr hg, List.pairwise_cons.2 ⟨fun q hq g hg hgq => ?_, H.dj⟩, fun p hp => ?_⟩
 ·have := (H.ok q hq).2.1 g hgq
  have := (hfp g hg).2
  omega
 ·rcases List.mem_cons.1 hp with rfl | hp
  ·exact ⟨hl, fun g hg => (hfp g hg).1, hf⟩
  ·exact h.ok p hp
theorem Hp.know {w0 w : World} {L : List Ft} (H : Hp w0 L w) (f : Ft) (hl : f.Loc) (hfp : ∀ g ∈ f.fp, g < w.heap.size ∧ ∀ q ∈ L, g ∉ q.fp) (hf : f.φ w) : Hp w0 (f :: L) w := by
 refine ⟨H.os.mono fun g hg _ => by simp only [List.flatMap_cons, List.mem_append]; exact .inr hg, List.pairwise_cons.2 ⟨fun q hq g hg => (hfp g hg).2 q hq, H.dj⟩, fun p hp => ?_⟩
 rcases List.mem_cons.1 hp with rfl | hp
 ·exact ⟨hl, fun g hg => (hfp g hg).1, hf⟩
 ·exact H.ok p hp
theorem Td {w w' : World} : ∀ {L : List Ft} {i : Nat} {f f' : Ft}, nth L i = some f → (L.Pairwise fun p q => ∀ g ∈ p.fp, g ∉ q.fp) → (∀ p ∈ L, p.Loc ∧ (∀ g ∈ p.fp, g < w.heap.size) ∧ p.φ w) → Outs f.fp w w' → f'.Loc →
  (∀ g ∈ f'.fp, g < w'.heap.size ∧ (g ∈ f.fp ∨ w.heap.size ≤ g)) → f'.φ w' →
  ((putF L i f').Pairwise fun p q => ∀ g ∈ p.fp, g ∉ q.fp) ∧ (∀ p ∈ putF L i f', p.Loc ∧ (∀ g ∈ p.fp, g < w'.heap.size) ∧ p.φ w')
 | x :: l, 0, f, f', hi, hd, hok, hc, hl, hfp, hf => by
  cases hi
  obtain ⟨hd1, hd2⟩ := List.pairwise_cons.1 hd
  refine ⟨List.pairwise_cons.2 ⟨fun q hq g hg hgq => ?_, hd2⟩, fun p hp => ?_⟩
  ·rcases (hfp g hg).2 with h | h
   ·exact hd1 q hq g h hgq
   ·have := (hok q (List.mem_cons_of_mem _ hq)).2.1 g hgq; omega
  ·rcases List.mem_cons.1 hp with rfl | hp
   ·exact ⟨hl, fun g hg => (hfp g hg).1, hf⟩
   ·obtain ⟨h1, h2, h3⟩ := hok p (List.mem_cons_of_mem _ hp)
    exact ⟨h1, fun g hg => Nat.lt_of_lt_of_le (h2 g hg) hc.size, h1 w w' (fun g hg => hc.block g (h2 g hg) fun hx => hd1 p hp g hx hg) h3⟩
 | x :: l, i + 1, f, f', hi, hd, hok, hc, hl, hfp, hf => by
  obtain ⟨hd1, hd2⟩ := List.pairwise_cons.1 hd
  have hm : f ∈ l := EU (L := l) hi
  obtain ⟨r1, r2⟩ := Td (L := l) (i := i) hi hd2 (fun p hp => hok p (List.mem_cons_of_mem _ hp)) hc hl hfp hf
  obtain ⟨h1, h2, h3⟩ := hok x (List.mem_cons_self ..)
  refine ⟨List.pairwise_cons.2 ⟨fun q hq g hg hgq => ?_, r1⟩, fun p hp => ?_⟩
  ·rcases J2 hq with rfl | hq
   ·rcases (hfp g hgq).2 with h | h
    ·exact hd1 f hm g hg h
    ·have := h2 g hg; omega
   ·exact hd1 q hq g hg hgq
  ·rcases List.mem_cons.1 hp with rfl | hp
   ·exact ⟨h1, fun g hg => Nat.lt_of_lt_of_le (h2 g hg) hc.size, h1 w w' (fun g hg => hc.block g (h2 g hg) fun hx => hd1 f hm g hg hx) h3⟩
   ·exact r2 p hp
theorem VY : ∀ {L : List Ft} {i : Nat} {f f' : Ft}, nth L i = some f → ∀ g ∈ L.flatMap (·.fp), g ∈ (putF L i f').flatMap (·.fp) ∨ g ∈ f.fp
 | x :: l, 0, f, f', hi, g, hg => by
  cases hi
  simp only [List.flatMap_cons, List.mem_append] at hg
  rcases hg with h | h
  ·exact .inr h
  ·exact .inl (by show g ∈ (f' :: l).flatMap _; simp only [List.flatMap_cons, List.mem_append]; exact .inr h)
 | x :: l, i + 1, f, f', hi, g, hg => by
  simp only [List.flatMap_cons, List.mem_append] at hg
  show g ∈ (x :: putF l i f').flatMap _ ∨ _
  simp only [List.flatMap_cons, List.mem_append]
  rcases hg with h | h
  ·exact .inl (.inl h)
  ·exact (VY (L := l) (i := i) hi g h).imp .inr id
theorem SB : ∀ {L : List Ft} {i : Nat} {f f' : Ft}, nth L i = some f → f' ∈ putF L i f'
 | x :: l, 0, f, f', _ => List.mem_cons_self ..
 | x :: l, i + 1, f, f', hi => List.mem_cons_of_mem _ (SB (L := l) (i := i) hi)
theorem Hp.chg {w0 w w' : World} {L : List Ft} (H : Hp w0 L w) {i : Nat} {f : Ft} (hi : nth L i = some f) (f' : Ft) (hc : Outs f.fp w w') (hl : f'.Loc)
  (hfp : ∀ g ∈ f'.fp, g < w'.heap.size ∧ (g ∈ f.fp ∨ w.heap.size ≤ g)) (hfr : ∀ g ∈ f.fp, g ∈ f'.fp ∨ w0.heap.size ≤ g) (hf : f'.φ w') : Hp w0 (putF L i f') w' := by
 obtain ⟨r1, r2⟩ := Td hi H.dj H.ok hc hl hfp hf
 have hm : f ∈ L := EU hi
 refine ⟨?_, r1, r2⟩
 refine (H.os.then_ hc fun g hg _ => List.mem_flatMap.2 ⟨f, hm, hg⟩).mono fun g hg hlt => ?_
 rcases VY (f' := f') hi g hg with h | h
 ·exact h
 ·rcases hfr g h with h | h
  ·exact List.mem_flatMap.2 ⟨f', SB hi, h⟩
  ·omega
def allF : List Ft → (Ft → Prop) → Prop
 | [], _ => True
 | f :: l, Q => Q f ∧ allF l Q
theorem allF.mem {Q : Ft → Prop} : ∀ {L : List Ft}, allF L Q → ∀ f ∈ L, Q f
 | [], _, f, h => by cases h
 | x :: l, hq, f, h => by
  rcases List.mem_cons.1 h with rfl | h
  ·exact hq.1
  ·exact allF.mem hq.2 f h
def F9 (L : List Ft) : List Nat → Option (List Ft)
 | [] => some []
 | i :: is => match nth L i, F9 L is with
  | some f, some r => some (f :: r)
  | _, _ => none
theorem VC {R : Ft → Ft → Prop} (hR : ∀ p q, R p q → R q p) : ∀ {L : List Ft} {i j : Nat} {f g : Ft}, L.Pairwise R → nth L i = some f → nth L j = some g → i ≠ j → R f g
 | x :: l, 0, 0, _, _, _, _, _, hne => absurd rfl hne
 | x :: l, 0, j + 1, f, g, hp, hi, hj, _ => by cases hi; exact (List.pairwise_cons.1 hp).1 g (EU (L := l) hj)
 | x :: l, i + 1, 0, f, g, hp, hi, hj, _ => by cases hj; exact hR _ _ ((List.pairwise_cons.1 hp).1 f (EU (L := l) hi))
 | x :: l, i + 1, j + 1, f, g, hp, hi, hj, hne => VC hR (L := l) (i := i) (j := j) (List.pairwise_cons.1 hp).2 hi hj (fun e => hne (by rw [e]))
theorem JP {L : List Ft} : ∀ {is : List Nat} {L' : List Ft}, F9 L is = some L' → ∀ f ∈ L', ∃ i ∈ is, nth L i = some f
 | [], L', h, f, hf => by cases h; cases hf
 | i :: is, L', h, f, hf => by
  unfold F9 at h
  cases h1 : nth L i with
  | none => rw [h1] at h; cases h
  | some x =>
   cases h2 : F9 L is with
   | none => rw [h1, h2] at h; cases h
   | some r =>
    rw [h1, h2] at h
    cases h
    rcases List.mem_cons.1 hf with rfl | hf
    ·exact ⟨i, List.mem_cons_self .., h1⟩
    ·obtain ⟨j, hj, e⟩ := JP h2 f hf
     exact ⟨j, List.mem_cons_of_mem _ hj, e⟩
theorem PI {L : List Ft} (hd : L.Pairwise fun p q => ∀ g ∈ p.fp, g ∉ q.fp) : ∀ {is : List Nat} {L' : List Ft}, F9 L is = some L' → is.Nodup → L'.Pairwise fun p q => ∀ g ∈ p.fp, g ∉ q.fp
 | [], L', h, _ => by cases h; exact .nil
 | i :: is, L', h, hn => by
  unfold F9 at h
  cases h1 : nth L i with
  | none => rw [h1] at h; cases h
  | some x =>
   cases h2 : F9 L is with
   | none => rw [h1, h2] at h; cases h
   | some r =>
    rw [h1, h2] at h
    cases h
    obtain ⟨n1, n2⟩ := List.nodup_cons.1 hn
    refine List.pairwise_cons.2 ⟨fun q hq => ?_, PI hd h2 n2⟩
    obtain ⟨j, hj, e⟩ := JP h2 q hq
    exact VC (R := fun p q => ∀ g ∈ p.fp, g ∉ q.fp) (fun p q h g hg hgp => h g hgp hg) hd h1 e (fun e => n1 (e ▸ hj))
def Frs (w0 : World) (is : List Nat) : Nat → List Ft → Prop
 | _, [] => True
 | i, f :: l => (is.contains i = true ∨ ∀ g ∈ f.fp, w0.heap.size ≤ g) ∧ Frs w0 is (i + 1) l
theorem SU {w0 : World} {is : List Nat} : ∀ {L : List Ft} {i : Nat}, Frs w0 is i L → ∀ f ∈ L, (∃ j, is.contains (i + j) = true ∧ nth L j = some f) ∨ ∀ g ∈ f.fp, w0.heap.size ≤ g
 | [], _, _, f, h => by cases h
 | x :: l, i, hq, f, h => by
  rcases List.mem_cons.1 h with rfl | h
  ·exact hq.1.imp (fun h => ⟨0, h, rfl⟩) id
  ·exact (SU hq.2 f h).imp (fun ⟨j, h1, h2⟩ => ⟨j + 1, by rw [show i + (j + 1) = i + 1 + j by omega]; exact h1, h2⟩) id
theorem Oh {L : List Ft} : ∀ {is : List Nat} {L' : List Ft}, F9 L is = some L' → ∀ i ∈ is, ∀ f, nth L i = some f → f ∈ L'
 | [], _, _, i, h, _, _ => by cases h
 | j :: is, L', h, i, hi, f, hf => by
  unfold F9 at h
  cases h1 : nth L j with
  | none => rw [h1] at h; cases h
  | some x =>
   cases h2 : F9 L is with
   | none => rw [h1, h2] at h; cases h
   | some r =>
    rw [h1, h2] at h
    cases h
    rcases List.mem_cons.1 hi with rfl | hi
    ·rw [h1] at hf; cases hf; exact List.mem_cons_self ..
    ·exact List.mem_cons_of_mem _ (Oh h2 i hi f hf)
theorem Hp.pick {w0 w : World} {L L' : List Ft} (H : Hp w0 L w) (is : List Nat) (hp : F9 L is = some L') (hn : is.Nodup) (hf : Frs w0 is 0 L) : Hp w0 L' w := by
 refine ⟨H.os.mono fun g hg hlt => ?_, PI H.dj hp hn, fun p hpm => ?_⟩
 ·obtain ⟨f, hfm, hgf⟩ := List.mem_flatMap.1 hg
  rcases SU hf f hfm with ⟨j, hj, e⟩ | h
  ·exact List.mem_flatMap.2 ⟨f, Oh hp j (by rw [Nat.zero_add] at hj; simpa using hj) f e, hgf⟩
  ·have := h g hgf; omega
 ·obtain ⟨i, _, e⟩ := JP hp p hpm
  exact H.ok p (EU e)
theorem Hp.toBelow {w0 w : World} {L : List Ft} (H : Hp w0 L w) (hf : allF L fun f => ∀ g ∈ f.fp, w0.heap.size ≤ g) : Below w0.heap.size w0 w :=
 ⟨H.os.os, H.os.tape, H.os.output, H.os.size, fun k hk => H.os.block k hk fun hm => by
  obtain ⟨f, hfm, hg⟩ := List.mem_flatMap.1 hm
  have := hf.mem f hfm k hg
  omega⟩
theorem Hp.toGrown {w0 w : World} {L : List Ft} (H : Hp w0 L w) (b : Nat) (hf : allF L fun f => ∀ g ∈ f.fp, g = b ∨ w0.heap.size ≤ g) : w0.grownBy w (some b) :=
 ⟨H.os.os, H.os.tape, H.os.output, H.os.size, fun k hk hne => H.os.block k hk fun hm => by
  obtain ⟨f, hfm, hg⟩ := List.mem_flatMap.1 hm
  rcases hf.mem f hfm k hg with h | h
  ·exact hne (by rw [h])
  ·omega⟩
def cell (g : Nat) (t : TypeId) (cs : List Value) : Ft := ⟨[g], fun w => Blk w g t cs.toArray⟩
theorem BR (g : Nat) (t : TypeId) (cs : List Value) : (cell g t cs).Loc := fun w w' h hb => (h g (List.mem_singleton.2 rfl)).trans hb
section
variable {P : Program} {ops : Array Oper} {Q Q' : Exit → Act → World → Prop} {n : Nat} {vs : Vs} {w0 : World} {L : List Ft} {o : Oper} {rest : List Oper}
def SxL (P : Program) (ops : Array Oper) (Q : Exit → Act → World → Prop) (rest : List Oper) (n : Nat) (vs : Vs) (w0 : World) (L : List Ft) : Prop := ∀ a w, Kn n vs a → Hp w0 L w → wpList P ops Q rest a w
def SxC (P : Program) (c : Code) (Q : Exit → Act → World → Prop) (n : Nat) (vs : Vs) (w0 : World) (L : List Ft) : Prop := ∀ a w, Kn n vs a → Hp w0 L w → c.wp P Q a w
def SxN (Q : Exit → Act → World → Prop) (n : Nat) (vs : Vs) (w0 : World) (L : List Ft) : Prop := ∀ a w, Kn n vs a → Hp w0 L w → Q .normal a w
theorem Ad (h : SxN Q n vs w0 L) : SxL P ops Q [] n vs w0 L := h
theorem Aa {y : Code} (h : SxC P y Q n vs w0 L) : SxN (Exit.then (y.wp P Q) Q') n vs w0 L := h
theorem AA {id : Nat} (h : SxN Q n vs w0 L) : SxN (Exit.inBlock id Q) n vs w0 L := h
theorem Ae {x y : Code} (h : SxC P x (Exit.then (y.wp P Q) Q) n vs w0 L) : SxC P (.seq x y) Q n vs w0 L := fun a w K H => wp_seq (h a w K H)
theorem Ax (h : SxN Q n vs w0 L) : SxC P .skip Q n vs w0 L := fun a w K H => wp_skip (h a w K H)
theorem AG {id : Nat} {c : Code} (h : SxC P c (Exit.inBlock id Q) n vs w0 L) : SxC P (.block id c) Q n vs w0 L := fun a w K H => wp_block (h a w K H)
def SxX (e : Exit) (Q : Exit → Act → World → Prop) (n : Nat) (vs : Vs) (w0 : World) (L : List Ft) : Prop := ∀ a w, Kn n vs a → Hp w0 L w → Q e a w
theorem Cd {id : Nat} (h : SxX (.exit id) Q n vs w0 L) : SxC P (.exit id) Q n vs w0 L := fun a w K H => wp_exit (h a w K H)
theorem Am (h : SxX .ret Q n vs w0 L) : SxC P .ret Q n vs w0 L := fun a w K H => wp_ret (h a w K H)
theorem AW {id : Nat} {K : Act → World → Prop} (h : SxX (.exit id) Q n vs w0 L) : SxX (.exit id) (Exit.then K Q) n vs w0 L := h
theorem Ak {K : Act → World → Prop} (h : SxX .ret Q n vs w0 L) : SxX .ret (Exit.then K Q) n vs w0 L := h
theorem AU {id : Nat} (h : SxX .ret Q n vs w0 L) : SxX .ret (Exit.inBlock id Q) n vs w0 L := h
theorem BH {id : Nat} (h : SxN Q n vs w0 L) : SxX (.exit id) (Exit.inBlock id Q) n vs w0 L := fun a w K H => by
 show (if id = id then Q .normal a w else Q (.exit id) a w)
 rw [if_pos rfl]
 exact h a w K H
theorem Ac {id : Nat} {l : List Oper} (h : SxL P l.toArray Q l n vs w0 L) : SxC P (.region id l.toArray false) Q n vs w0 L := fun a w K H => wp_region_lit (h a w K H)
theorem Ap {c : Operand} {x y : Code} (hc : opv vs c = some (.bool true)) (h : SxC P x Q n vs w0 L) : SxC P (.cond c x y) Q n vs w0 L := fun a w K H => wp_cond_true (K.env.ev hc) (h a w K H)
theorem Ah {c : Operand} {x y : Code} (hc : opv vs c = some (.bool false)) (h : SxC P y Q n vs w0 L) : SxC P (.cond c x y) Q n vs w0 L := fun a w K H => wp_cond_false (K.env.ev hc) (h a w K H)
theorem YO {c : Code} {vs' : Vs} {L' : List Ft} (h : SxC P c Q n vs' w0 L') (hs : Sub vs' vs) (is : List Nat) (hp : F9 L is = some L') (hn : is.Nodup) (hf : Frs w0 is 0 L) : SxC P c Q n vs w0 L :=
 fun a w K H => h a w (K.sub hs) (H.pick is hp hn hf)
theorem G6 {c : Code} {p : Prop} (hp : ∀ w, Hp w0 L w → p) (h : p → SxC P c Q n vs w0 L) : SxC P c Q n vs w0 L := fun a w K H => h (hp w H) a w K H
def GOn (ops : Array Oper) (vs : Vs) : Option (Nat × Bool) → Prop
 | none => True
 | some (j, b) => ∃ oj dj, ops[j]? = some oj ∧ oj.dst = some dj ∧ look vs dj = some (.bool b)
def GOff (ops : Array Oper) (vs : Vs) : Option (Nat × Bool) → Prop
 | none => False
 | some (j, b) => ∃ oj dj x, ops[j]? = some oj ∧ oj.dst = some dj ∧ look vs dj = some x ∧ x ≠ .bool b
theorem GOn.on {ρ : Operand → Value} {g : Option (Nat × Bool)} (h : GOn ops vs g) (E : Env vs ρ) : On ops ρ g := by
 cases g with
 | none => trivial
 | some p => obtain ⟨j, b⟩ := p; obtain ⟨oj, dj, h1, h2, h3⟩ := h; exact ⟨oj, dj, h1, h2, E.vs dj _ h3⟩
theorem GOff.off {ρ : Operand → Value} {g : Option (Nat × Bool)} (h : GOff ops vs g) (E : Env vs ρ) : Off ops ρ g := by
 cases g with
 | none => exact h.elim
 | some p => obtain ⟨j, b⟩ := p; obtain ⟨oj, dj, x, h1, h2, h3, h4⟩ := h; exact ⟨oj, dj, x, h1, h2, E.vs dj _ h3, h4⟩
theorem Hn {a : Act} {w : World} (hon : On ops a.eval o.guard) (h : o.wp P a w (wpList P ops Q rest) Q) : wpList P ops Q (o :: rest) a w := by
 unfold wpList
 rw [if_pos hon.wanted]
 exact .inl h
theorem Ag {d : Nat} {v : Value} (hon : GOn ops vs o.guard) (hd : o.dst = some d) (hdn : Nat.blt d n = true) (hr : ∀ ρ w, Env vs ρ → Hp w0 L w → (execOp ρ o).run P w = .ok (.value v) w)
  (h : SxL P ops Q rest n ((d, v) :: vs) w0 L) : SxL P ops Q (o :: rest) n vs w0 L := fun a w K H => by
 refine Hn (hon.on K.env) ?_
 unfold Oper.wp
 rw [hr a.eval w K.env H]
 show wpList P ops Q rest (a.put o.dst v) w
 rw [hd]
 exact h _ _ (K.put hdn v) H
theorem DT {d : Nat} {b : Bool} (hon : GOn ops vs o.guard) (hd : o.dst = some d) (hdn : Nat.blt d n = true) (hr : ∀ ρ w, Env vs ρ → Hp w0 L w → (execOp ρ o).run P w = .ok (.value (.bool b)) w)
  (h : ∀ t, b = t → SxL P ops Q rest n ((d, .bool t) :: vs) w0 L) : SxL P ops Q (o :: rest) n vs w0 L := Ag hon hd hdn hr (h b rfl)
theorem XG {d : Nat} (hoff : GOff ops vs o.guard) (hd : o.dst = some d) (hdn : Nat.blt d n = true) (h : SxL P ops Q rest n ((d, undef) :: vs) w0 L) : SxL P ops Q (o :: rest) n vs w0 L := fun a w K H => by
 unfold wpList
 rw [if_neg (by rw [(hoff.off K.env).wanted]; decide), hd]
 exact h _ _ (K.put hdn undef) H
theorem Tv {d : Nat} {t : TypeId} {cs : List Value} (hon : GOn ops vs o.guard) (hd : o.dst = some d) (hdn : Nat.blt d n = true)
  (hr : ∀ ρ w, Env vs ρ → Hp w0 L w → (execOp ρ o).run P w = .ok (.value (.pointer (some ⟨w.heap.size, 0, none⟩))) (w.alloc (.cells cs.toArray t)))
  (h : ∀ g, w0.heap.size ≤ g → SxL P ops Q rest n ((d, .pointer (some ⟨g, 0, none⟩)) :: vs) w0 (cell g t cs :: L)) : SxL P ops Q (o :: rest) n vs w0 L := fun a w K H => by
 refine Hn (hon.on K.env) ?_
 unfold Oper.wp
 rw [hr a.eval w K.env H]
 show wpList P ops Q rest (a.put o.dst _) _
 rw [hd]
 refine h w.heap.size H.os.size _ _ (K.put hdn _) (H.add ((Below.refl _ w).alloc (Nat.le_refl _) _) _ (BR _ _ _) (fun g hg => ?_) (Blk.new w t cs.toArray))
 obtain rfl := List.mem_singleton.1 hg
 exact ⟨by rw [World.alloc, Array.size_push]; omega, Nat.le_refl _⟩
theorem WG {i g : Nat} {t : TypeId} {cs : List Value} (cs' : List Value) (hon : GOn ops vs o.guard) (hd : o.dst = none) (hi : nth L i = some (cell g t cs))
  (hr : ∀ ρ w, Env vs ρ → Hp w0 L w → ∃ w', (execOp ρ o).run P w = .ok .skip w' ∧ Blk w' g t cs'.toArray ∧ w.grownBy w' (some g))
  (h : SxL P ops Q rest n vs w0 (putF L i (cell g t cs'))) : SxL P ops Q (o :: rest) n vs w0 L := fun a w K H => by
 refine Hn (hon.on K.env) ?_
 unfold Oper.wp
 obtain ⟨w', hr, hb, hg⟩ := hr a.eval w K.env H
 rw [hr]
 show wpList P ops Q rest (a.put o.dst _) _
 rw [hd]
 refine h _ _ K (H.chg hi _ (Outs.of_grown hg (List.mem_singleton.2 rfl)) (BR _ _ _) (fun g' hg' => ?_) (fun g' hg' => .inl hg') hb)
 obtain rfl := List.mem_singleton.1 hg'
 exact ⟨hb.lt, .inl (List.mem_singleton.2 rfl)⟩
theorem AP {σ : Type} {d f : Nat} {args : Array Value} (v : σ → Value) (F : σ → Prop) (L' : σ → List Ft) (hon : GOn ops vs o.guard) (hd : o.dst = some d) (hdn : Nat.blt d n = true)
  (hr : ∀ ρ w, Env vs ρ → (execOp ρ o).run P w = .ok (.enter f args) w) (hc : ∀ w, Hp w0 L w → Calls P f args w fun e w' => ∃ s, e = .returned (v s) ∧ F s ∧ Hp w0 (L' s) w')
  (h : ∀ s, F s → SxL P ops Q rest n ((d, v s) :: vs) w0 (L' s)) : SxL P ops Q (o :: rest) n vs w0 L := fun a w K H => by
 refine Hn (hon.on K.env) ?_
 unfold Oper.wp
 rw [hr a.eval w K.env, Oper.upon_enter]
 refine (hc w H).mono fun e w' he => ?_
 obtain ⟨s, rfl, hF, H'⟩ := he
 show wpList P ops Q rest (a.put o.dst _) _
 rw [hd]
 exact h s hF _ _ (K.put hdn _) H'
theorem Ao {d f : Nat} {args : Array Value} {v : Value} (hon : GOn ops vs o.guard) (hd : o.dst = some d) (hdn : Nat.blt d n = true)
  (hr : ∀ ρ w, Env vs ρ → (execOp ρ o).run P w = .ok (.enter f args) w) (hc : ∀ w, Hp w0 L w → Calls P f args w fun e w' => e = .returned v ∧ Below w.heap.size w w')
  (h : SxL P ops Q rest n ((d, v) :: vs) w0 L) : SxL P ops Q (o :: rest) n vs w0 L :=
 AP (σ := Unit) (fun _ => v) (fun _ => True) (fun _ => L) hon hd hdn hr (fun w H => (hc w H).mono fun _ _ he => ⟨(), he.1, trivial, H.below he.2⟩) (fun _ _ => h)
theorem Ai {fn : Func} {R : Ending → World → Prop} (v : Value) (hres : ∀ a w, Kn n vs a → Hp w0 L w → (results fn a.tmps).run P w = .ok v w)
  (h : ∀ w, Hp w0 L w → R (.returned v) w) : SxX .ret (bodyPost P fn R) n vs w0 L := fun a w K H => bodyPost_ret (hres a w K H) K.df (h w H)
theorem Dt {fn : Func} {R : Ending → World → Prop} (v : Value) (hres : ∀ a w, Kn n vs a → Hp w0 L w → (results fn a.tmps).run P w = .ok v w)
  (h : ∀ w, Hp w0 L w → R (.returned v) w) : SxN (bodyPost P fn R) n vs w0 L := fun a w K H => bodyPost_end (hres a w K H) K.df (h w H)
theorem Kn.tmp {a : Act} (K : Kn n vs a) {k : Nat} {v : Value} (h : look vs k = some v) : a.tmps.getD k undef = v := K.vs k v h
theorem Hl {fn : Func} {a : Act} {w : World} (h : fn.results = #[]) : (results fn a.tmps).run P w = .ok (.tuple #[]) w := results_none h _ P w
theorem BC {fn : Func} {a : Act} {w : World} (K : Kn n vs a) {t : Nat} {v : Value} (h : fn.results = #[.tmp t]) (hv : look vs t = some v) : (results fn a.tmps).run P w = .ok v w := by
 rw [results_tmp h, K.tmp hv]
theorem XX {fn : Func} {a : Act} {w : World} (K : Kn n vs a) {t u : Nat} {v x : Value} (h : fn.results = #[.tmp t, .tmp u]) (hv : look vs t = some v) (hx : look vs u = some x) : (results fn a.tmps).run P w = .ok (.tuple #[v, x]) w := by
 rw [results_tmp2 h, K.tmp hv, K.tmp hx]
def Vr (P : Program) (vs : Vs) (w : World) : List ResultVar → List Value → Prop
 | [], [] => True
 | .tmp t :: rs, v :: l => look vs t = some v ∧ Vr P vs w rs l
 | .cell c ty :: rs, v :: l => (∃ g, look vs c = some (.pointer (some g)) ∧ (loadVar ty g).run P w = .ok v w) ∧ Vr P vs w rs l
 | _, _ => False
def OU (tmps : Array Value) : ResultVar → Sem Value
 | .tmp t => pure (tmps.getD t undef)
 | .cell c t => do loadVar t (← asAddr (tmps.getD c undef))
theorem PE (fn : Func) (tmps : Array Value) : results fn tmps = (do let vs ← fn.results.mapM (OU tmps); pure (if h : vs.size = 1 then vs[0] else .tuple vs)) := rfl
theorem KA {a : Act} {w : World} (K : Kn n vs a) : ∀ (rs : List ResultVar) (l : List Value), Vr P vs w rs l → (rs.mapM (OU a.tmps)).run P w = .ok l w
 | [], [], _ => rfl
 | [], _ :: _, h => h.elim
 | .tmp _ :: _, [], h => h.elim
 | .cell _ _ :: _, [], h => h.elim
 | .tmp t :: rs, v :: l, ⟨h1, h2⟩ => by
  have e : OU a.tmps (.tmp t) = pure v := by show pure (a.tmps.getD t undef) = _; rw [K.tmp h1]
  rw [List.mapM_cons, e]
  simp only [Sem.run_bind, Sem.run_pure, Result.andThen_ok, KA K rs l h2]
 | .cell c ty :: rs, v :: l, ⟨⟨g, h1, h3⟩, h2⟩ => by
  have e : OU a.tmps (.cell c ty) = loadVar ty g := by show (do loadVar ty (← asAddr (a.tmps.getD c undef))) = _; rw [K.tmp h1]; rfl
  rw [List.mapM_cons, e]
  simp only [Sem.run_bind, Sem.run_pure, Result.andThen_ok, h3, KA K rs l h2]
theorem Ja {fn : Func} {a : Act} {w : World} (K : Kn n vs a) {rs : List ResultVar} (l : List Value) (h : fn.results = rs.toArray) (hv : Vr P vs w rs l) : (results fn a.tmps).run P w = .ok (if h : l.toArray.size = 1 then l.toArray[0] else .tuple l.toArray) w := by
 rw [PE, h]
 simp only [List.mapM_toArray, Sem.run_bind, Sem.run_pure, Sem.run_map, KA K rs l hv, Result.andThen_ok]
theorem A0 {f : FuncId} {fn : Func} {c : Code} {R : Ending → World → Prop} (args : List Value) (hf : P.funcs[f]? = some fn) (hb : fn.body = some c) (hn : fn.ntmps = n) (hl : Nat.ble args.length n = true) (H : Hp w0 L w0)
  (h : SxC P c (bodyPost P fn R) n (Wi 0 args) w0 L) : Calls P f args.toArray w0 R := by
 refine calls_of_wp hf hb ?_
 rw [hn]
 exact h _ _ (Kn.enter args (by simpa [Nat.ble_eq] using hl)) H
def Sr {σ : Type} (n : Nat) (w0 : World) (vF : σ → Vs) (LF : σ → List Ft) (F : Nat → σ → Prop) (k : Nat) (a : Act) (w : World) : Prop := ∃ k' s, k' < k ∧ F k' s ∧ Kn n (vF s) a ∧ Hp w0 (LF s) w
theorem JH {σ : Type} {c : Code} (vF : σ → Vs) (LF : σ → List Ft) (F : Nat → σ → Prop) (k0 : Nat) (s0 : σ) (h0 : F k0 s0) (hs : Sub (vF s0) vs) (is : List Nat) (hp : F9 L is = some (LF s0)) (hn : is.Nodup) (hf : Frs w0 is 0 L)
  (round : ∀ k s, F k s → SxC P c (Exit.then (Sr n w0 vF LF F k) Q) n (vF s) w0 (LF s)) : SxC P (.loop c) Q n vs w0 L := fun a w K H => by
 refine wp_loop_ghost (fun k a w => ∃ s, F k s ∧ Kn n (vF s) a ∧ Hp w0 (LF s) w) k0 ⟨s0, h0, K.sub hs, H.pick is hp hn hf⟩ ?_
 rintro k a w ⟨s, hF, K, H⟩
 refine wp_mono (round k s hF a w K H) fun e a w h => ?_
 cases e with
 | normal => obtain ⟨k', s', h1, h2, h3, h4⟩ := h; exact ⟨k', h1, s', h2, h3, h4⟩
 | exit id => exact h
 | goto l => exact h
 | ret => exact h
 | panic ch => exact h
 | outgrown => exact h
theorem B7 {σ : Type} {vF : σ → Vs} {LF : σ → List Ft} {F : Nat → σ → Prop} {k : Nat} (k' : Nat) (s : σ) (hk : k' < k) (h0 : F k' s) (hs : Sub (vF s) vs) (is : List Nat) (hp : F9 L is = some (LF s)) (hn : is.Nodup) (hf : Frs w0 is 0 L) :
  SxN (Exit.then (Sr n w0 vF LF F k) Q) n vs w0 L := fun a w K H => ⟨k', s, hk, h0, K.sub hs, H.pick is hp hn hf⟩
end
end Go.Proofs.YteiaiilfekojfaaGreat.Sx
end
section
set_option linter.unusedVariables false
set_option linter.unusedSimpArgs false
namespace Go.Proofs.YteiaiilfekojfaaGreat.Sx
open Go.RowKit DrawInv

section
variable {P : Program} {ρ : Operand → Value} {o : Oper} {w : World} {vs : Vs}
theorem Lq {x : Operand} {v : Value} (E : Env vs ρ) (ho : o.op = .move x) (hx : opv vs x = some v) : (execOp ρ o).run P w = .ok (.value v) w := by
 unfold execOp; rw [ho]; simp only [Sem.run_pure, E.ev hx]
theorem O0 {x : Operand} {v : Value} (E : Env vs ρ) (ho : o.op = .assign x) (hx : opv vs x = some v) : (execOp ρ o).run P w = .ok (.value v) w := by
 unfold execOp; rw [ho]; simp only [Sem.run_pure, E.ev hx]
theorem Lo {c x y : Operand} {t : Bool} {v : Value} (E : Env vs ρ) (ho : o.op = .pick c x y) (hc : opv vs c = some (.bool t)) (hv : opv vs (bif t then x else y) = some v) : (execOp ρ o).run P w = .ok (.value v) w := by
 unfold execOp; rw [ho]; simp only [asBool, E.ev hc, Sem.run_bind, Sem.run_pure, Result.andThen_ok]
 cases t
 ·simp only [cond] at hv; simp [E.ev hv]
 ·simp only [cond] at hv; simp [E.ev hv]
theorem Jf {T : TypeId} {x : Operand} {t : Bool} (E : Env vs ρ) (ho : o.op = .unOp .not T x) (hx : opv vs x = some (.bool t)) : (execOp ρ o).run P w = .ok (.value (.bool (!t))) w := by
 unfold execOp; rw [ho]; simp only [E.ev hx, Op.unary, Sem.run_bind, Sem.run_pure, Result.andThen_ok]
theorem RF {x : Operand} {i : Nat} {l : List Value} {v : Value} (E : Env vs ρ) (ho : o.op = .extract x i) (hx : opv vs x = some (.tuple l.toArray)) (hv : l[i]? = some v) : (execOp ρ o).run P w = .ok (.value v) w := by
 unfold execOp; rw [ho]; simp [E.ev hx, Instr.extract, hv]
theorem DN {s t : TypeId} {x : Operand} {k k' : IntKind} {a z : Int} {d : TypeDesc} (E : Env vs ρ) (ho : o.op = .convert s t x) (hs : P.underlying s = some d) (ht : P.underlying t = some (.int k')) (hx : opv vs x = some (.int k a)) (hz : k'.wrap a = z) : (execOp ρ o).run P w = .ok (.value (.int k' z)) w := by
 unfold execOp; rw [ho]; simp only [E.ev hx, convert, run_underlying hs, run_underlying ht, Sem.run_bind, Sem.run_pure, Result.andThen_ok, Conv.intToInt, hz]
def AB (op : BinOp) (a b : Int) : Bool := match op with
 | .eql => a == b
 | .neq => a != b
 | .lss => decide (a < b)
 | .leq => decide (a ≤ b)
 | .gtr => decide (b < a)
 | .geq => decide (b ≤ a)
 | _ => false
def SN (op : BinOp) : Bool := match op with
 | .eql | .neq | .lss | .leq | .gtr | .geq => true
 | _ => false
theorem E9 {op : BinOp} {T U : TypeId} {x y : Operand} {k : IntKind} {a b : Int} {t : Bool} (E : Env vs ρ) (ho : o.op = .binOp op T x y U) (hc : SN op = true) (hx : opv vs x = some (.int k a)) (hy : opv vs y = some (.int k b)) (ht : AB op a b = t) : (execOp ρ o).run P w = .ok (.value (.bool t)) w := by
 unfold execOp; rw [ho]; subst ht
 simp only [E.ev hx, E.ev hy]
 cases op <;> simp [SN] at hc <;> simp [eqGuard, binOp, Op.intCmp, AB]
theorem BQ {T U : TypeId} {x y : Operand} {k : IntKind} {a b z : Int} (E : Env vs ρ) (ho : o.op = .binOp .add T x y U) (hx : opv vs x = some (.int k a)) (hy : opv vs y = some (.int k b)) (hz : k.wrap (a + b) = z) : (execOp ρ o).run P w = .ok (.value (.int k z)) w := by
 unfold execOp; rw [ho]; subst hz
 simp [E.ev hx, E.ev hy, eqGuard, binOp, Op.intArith]
theorem LW {T U : TypeId} {x y : Operand} {k : IntKind} {a b z : Int} (E : Env vs ρ) (ho : o.op = .binOp .sub T x y U) (hx : opv vs x = some (.int k a)) (hy : opv vs y = some (.int k b)) (hz : k.wrap (a - b) = z) : (execOp ρ o).run P w = .ok (.value (.int k z)) w := by
 unfold execOp; rw [ho]; subst hz
 simp [E.ev hx, E.ev hy, eqGuard, binOp, Op.intArith]
theorem MR {T U : TypeId} {x y : Operand} {a b : List UInt8} {t : Bool} (E : Env vs ρ) (ho : o.op = .binOp .eql T x y U) (hx : opv vs x = some (.string ⟨a.toArray⟩)) (hy : opv vs y = some (.string ⟨b.toArray⟩)) (ht : decide (a = b) = t) : (execOp ρ o).run P w = .ok (.value (.bool t)) w := by
 unfold execOp; rw [ho]; subst ht
 have h : ∀ l : List UInt8, (⟨l.toArray⟩ : ByteArray).toList = l := fun l => by simp
 have h2 : (a == b) = decide (a = b) := Bool.eq_iff_iff.2 (by simp)
 simp [E.ev hx, E.ev hy, eqGuard, binOp, Op.stringOp, h, h2]
theorem Xr {T U : TypeId} {x y : Operand} {a b : List UInt8} {t : Bool} (E : Env vs ρ) (ho : o.op = .binOp .neq T x y U) (hx : opv vs x = some (.string ⟨a.toArray⟩)) (hy : opv vs y = some (.string ⟨b.toArray⟩)) (ht : (!decide (a = b)) = t) : (execOp ρ o).run P w = .ok (.value (.bool t)) w := by
 unfold execOp; rw [ho]; subst ht
 have h : ∀ l : List UInt8, (⟨l.toArray⟩ : ByteArray).toList = l := fun l => by simp
 have h2 : (a == b) = decide (a = b) := Bool.eq_iff_iff.2 (by simp)
 simp [E.ev hx, E.ev hy, eqGuard, binOp, Op.stringOp, h, h2]
theorem Ht {T U : TypeId} {x y : Operand} {a b : Array Value} {t : Bool} (E : Env vs ρ) (ho : o.op = .binOp .eql T x y U) (hg : P.eqGuardType P.depth T = false) (hx : opv vs x = some (.agg a)) (hy : opv vs y = some (.agg b)) (ht : ∀ w, (Op.equal T (.agg a) (.agg b)).run P w = .ok t w) : (execOp ρ o).run P w = .ok (.value (.bool t)) w := by
 unfold execOp; rw [ho]
 simp only [E.ev hx, E.ev hy, Sem.run_bind, run_eqGuard_agg w .eql T x y a b hg, Result.andThen_ok, binOp, ht w, Sem.run_pure]
theorem FV {T U : TypeId} {x y : Operand} {a b : Array Value} {t : Bool} (E : Env vs ρ) (ho : o.op = .binOp .neq T x y U) (hg : P.eqGuardType P.depth T = false) (hx : opv vs x = some (.agg a)) (hy : opv vs y = some (.agg b)) (ht : ∀ w, (Op.equal T (.agg a) (.agg b)).run P w = .ok (!t) w) : (execOp ρ o).run P w = .ok (.value (.bool t)) w := by
 unfold execOp; rw [ho]
 simp only [E.ev hx, E.ev hy, Sem.run_bind, run_eqGuard_agg w .neq T x y a b hg, Result.andThen_ok, binOp, ht w, Sem.run_pure, Bool.not_not]
theorem Hr {t u : TypeId} {x : Operand} {A : Option Addr} {n c : Nat} (E : Env vs ρ) (ho : o.op = .call { callee := .builtin .len, args := #[x], argTypes := #[t] }) (ht : P.underlying t = some (.slice u)) (hx : opv vs x = some (.slice A n c)) : (execOp ρ o).run P w = .ok (.value (.int .i64 (n : Int))) w := by
 unfold execOp; rw [ho]
 simp [E.ev hx, resolve, invoke, builtin, Builtin.len_, run_underlying ht, goInt]
theorem FT {t : TypeId} {x : Operand} {l : List UInt8} (E : Env vs ρ) (ho : o.op = .call { callee := .builtin .len, args := #[x], argTypes := #[t] }) (ht : P.underlying t = some .string) (hx : opv vs x = some (.string ⟨l.toArray⟩)) : (execOp ρ o).run P w = .ok (.value (.int .i64 (l.length : Int))) w := by
 unfold execOp; rw [ho]
 have h : (⟨l.toArray⟩ : ByteArray).size = l.length := by simp [ByteArray.size]
 simp [E.ev hx, resolve, invoke, builtin, Builtin.len_, run_underlying ht, goInt, h]
theorem Be {x : Operand} {a : Addr} (E : Env vs ρ) (ho : o.op = .nilCheck x) (hx : opv vs x = some (.pointer (some a))) : (execOp ρ o).run P w = .ok (.value (.pointer (some a))) w := by
 unfold execOp; rw [ho]
 simp [E.ev hx]
def fieldAt (P : Program) (s f off : Nat) : Prop := ∃ fs fd m, P.underlying s = some (.struct fs) ∧ fs[f]? = some fd ∧ (P.info? fd.type).map (·.size) = some (m + 1) ∧ fd.offset = off
theorem Gj (g i j : Nat) : (⟨g, i, none⟩ : Addr).add j = ⟨g, i + j, none⟩ := by unfold Addr.add; split <;> simp_all
theorem Fb {s f off : Nat} {x : Operand} {a : Addr} (E : Env vs ρ) (ho : o.op = .fieldAddr s x f) (hf : fieldAt P s f off) (hx : opv vs x = some (.pointer (some a))) : (execOp ρ o).run P w = .ok (.value (.pointer (some (a.add off)))) w := by
 obtain ⟨fs, fd, m, h1, h2, h3, rfl⟩ := hf
 unfold execOp; rw [ho]
 cases hi : P.info? fd.type with
 | none => rw [hi] at h3; cases h3
 | some i =>
  rw [hi] at h3
  have hm : i.size = m + 1 := Option.some.inj h3
  simp [E.ev hx, Instr.fieldAt, run_underlying h1, h2, Instr.sureAddr, fieldPlace, sizeOf, typeInfo, hi, hm]
theorem ND {s f off : Nat} {x : Operand} {g i j : Nat} (E : Env vs ρ) (ho : o.op = .fieldAddr s x f) (hf : fieldAt P s f off) (hx : opv vs x = some (.pointer (some ⟨g, i, none⟩))) (hj : i + off = j) : (execOp ρ o).run P w = .ok (.value (.pointer (some ⟨g, j, none⟩))) w := by
 rw [Fb E ho hf hx, Gj, hj]
def FP : List Value → Nat → List Value → List Value
 | cs, _, [] => cs
 | cs, o, v :: vs => FP (cs.set o v) (o + 1) vs
theorem La : ∀ (l : List Value) (cs : List Value) (o : Nat), WS cs.toArray o l = (FP cs o l).toArray
 | [], _, _ => rfl
 | v :: l, cs, o => by
  unfold WS FP
  rw [← La l]
  congr 1
  simp
theorem J0 : ∀ (l : List Value) (cs : List Value) (o : Nat), (FP cs o l).length = cs.length
 | [], _, _ => rfl
 | v :: l, cs, o => by unfold FP; rw [J0 l]; simp
theorem Iu {t u : TypeId} {p : Operand} {g off m : Nat} {cs part : List Value} {d : TypeDesc} (E : Env vs ρ) (hb : Blk w g u cs.toArray) (ho : o.op = .load t p) (hp : opv vs p = some (.pointer (some ⟨g, off, none⟩))) (hu : P.underlying t = some d) (hd : d.isRow = true) (hz : (P.info? t).map (·.size) = some m)
  (hpart : (cs.drop off).take m = part) (hm : part.length = m) : (execOp ρ o).run P w = .ok (.value (.agg part.toArray)) w := by
 refine JZ p ho (E.ev hp) ?_
 refine W5 hb off part.toArray ?_ hu hd (by rw [hz, ← hm]; rfl)
 rw [← hpart]
 have hl : ((cs.drop off).take m).length = m := by rw [hpart, hm]
 simp [hl]
theorem Oa {t : TypeId} {a : Addr} {v : Value} {d : TypeDesc} (hc : w.cell? a = some v) (hu : P.underlying t = some d) (hd : d.isRow = false) : (Instr.loadAt t (.pointer (some a))).run P w = .ok v w := by
 have h := run_isAgg_plain hu (by cases d <;> first | rfl | cases hd) w
 simp only [Instr.loadAt, Instr.sureAddr, Sem.run_bind, Sem.run_pure, Result.andThen_ok, loadVar, h]
 simp [hc]
theorem Dl {t u : TypeId} {p : Operand} {g off : Nat} {cs : List Value} {v : Value} {d : TypeDesc} (E : Env vs ρ) (hb : Blk w g u cs.toArray) (ho : o.op = .load t p) (hp : opv vs p = some (.pointer (some ⟨g, off, none⟩))) (hu : P.underlying t = some d) (hd : d.isRow = false) (hv : cs[off]? = some v) : (execOp ρ o).run P w = .ok (.value v) w :=
 JZ p ho (E.ev hp) (Oa (by rw [hb.cell off]; simpa using hv) hu hd)
theorem Ql {t : TypeId} {p : Operand} {a : Addr} {v : Value} {d : TypeDesc} (E : Env vs ρ) (hc : w.cell? a = some v) (ho : o.op = .load t p) (hp : opv vs p = some (.pointer (some a))) (hu : P.underlying t = some d) (hd : d.isRow = false) : (execOp ρ o).run P w = .ok (.value v) w :=
 JZ p ho (E.ev hp) (Oa hc hu hd)
theorem NC {t u : TypeId} {p x : Operand} {g off m : Nat} {cs : List Value} {v : Value} (E : Env vs ρ) (hb : Blk w g u cs.toArray) (ho : o.op = .store t p x) (hp : opv vs p = some (.pointer (some ⟨g, off, none⟩))) (hx : opv vs x = some v) (hz : (P.info? t).map (·.size) = some m) (hm : v.cells.toList.length = m) (hl : Nat.ble (off + m) cs.length = true) (h1 : v.cells.toList.all (·.oneCell') = true) :
  ∃ w', (execOp ρ o).run P w = .ok .skip w' ∧ Blk w' g u (FP cs off v.cells.toList).toArray ∧ w.grownBy w' (some g) := by
 have hs : v.cells.size = m := by rw [← hm]; simp
 refine ⟨w.setCells g off v.cells.toList, RD p x ho (E.ev hp) (E.ev hx) ?_, ?_, FC _ _ (World.grownBy.refl _ _)⟩
 ·have := XA (P := P) (ty := t) hb off v.cells (by rw [hs]; simpa using hl) (by rw [hz, hs]) h1
  exact this
 ·rw [← La]
  exact Blk.setCells _ _ hb
theorem We {t : TypeId} {z : Value} {cs : List Value} (ho : o.op = .alloc t) (hz : (P.info? t).bind (·.zero) = some z) (hc : z.cells = cs.toArray) : (execOp ρ o).run P w = .ok (.value (.pointer (some ⟨w.heap.size, 0, none⟩))) (w.alloc (.cells cs.toArray t)) := by
 unfold execOp; rw [ho]
 cases hi : P.info? t with
 | none => rw [hi] at hz; cases hz
 | some i =>
  rw [hi] at hz
  have hz : i.zero = some z := hz
  rw [← hc]
  simp [Instr.alloc, zeroValue, typeInfo, hi, hz, newVar, newRow]
theorem Yn {t : TypeId} {x : Operand} {v : Value} {cs : List Value} (E : Env vs ρ) (ho : o.op = .box t x) (hx : opv vs x = some v) (hc : v.cells = cs.toArray) : (execOp ρ o).run P w = .ok (.value (.pointer (some ⟨w.heap.size, 0, none⟩))) (w.alloc (.cells cs.toArray t)) := by
 unfold execOp; rw [ho, ← hc]
 simp [E.ev hx, Instr.box, newVar, newRow]
def Uh (vs : Vs) : List (Nat × Operand) → Option (List (Nat × Value))
 | [] => some []
 | (i, x) :: l => match opv vs x, Uh vs l with
  | some v, some r => some ((i, v) :: r)
  | _, _ => none
theorem Env.eps (E : Env vs ρ) : ∀ {l : List (Nat × Operand)} {r : List (Nat × Value)}, Uh vs l = some r → l.map (fun p => (p.1, ρ p.2)) = r
 | [], r, h => by cases h; rfl
 | (i, x) :: l, r, h => by
  unfold Uh at h
  cases h1 : opv vs x with
  | none => rw [h1] at h; cases h
  | some v =>
   cases h2 : Uh vs l with
   | none => rw [h1, h2] at h; cases h
   | some s =>
    rw [h1, h2] at h
    cases h
    simp only [List.map_cons]
    rw [E.ev h1, E.eps h2]
theorem Bh {t : TypeId} {ps : List (Nat × Operand)} {qs : List (Nat × Value)} {cs : List Value} (E : Env vs ρ) (ho : o.op = .build t ps.toArray) (hq : Uh vs ps = some qs) (hb : P.built t qs = some cs.toArray) : (execOp ρ o).run P w = .ok (.value (.agg cs.toArray)) w := by
 unfold execOp; rw [ho]
 have he : (ps.toArray.map fun (i, x) => (i, ρ x)) = qs.toArray := by
  rw [List.map_toArray]; exact congrArg List.toArray (E.eps hq)
 simp only [he, Sem.run_bind, run_build (P := P) w t qs.toArray cs.toArray (by simpa using hb), Result.andThen_ok, Sem.run_pure]
theorem AV {t e : TypeId} {len m : Nat} {ps : List (Nat × Operand)} {qs : List (Nat × Value)} {cs : List Value} {z : Value} (E : Env vs ρ) (ho : o.op = .buildSlice t len ps.toArray) (hq : Uh vs ps = some qs) (hu : P.underlying t = some (.slice e)) (hm : (P.info? e).map (·.size) = some m) (hz : (P.info? e).bind (·.zero) = some z)
  (hsmall : Nat.ble (len * m) (2 ^ 24) = true) (hpos : Nat.ble 1 (len * m) = true) (hb : Instr.fill (fun i => some (i * m, m)) ((Array.range (len * m)).map (z.cells[· % z.cells.size]!)) qs = some cs.toArray) :
  (execOp ρ o).run P w = .ok (.value (.slice (some ⟨w.heap.size, 0, none⟩) len len)) (w.alloc (.cells cs.toArray e)) := by
 unfold execOp; rw [ho]
 have he : (ps.toArray.map fun (i, x) => (i, ρ x)) = qs.toArray := by
  rw [List.map_toArray]; exact congrArg List.toArray (E.eps hq)
 cases hi : P.info? e with
 | none => rw [hi] at hz; cases hz
 | some ie =>
  rw [hi] at hz hm
  have hz : ie.zero = some z := hz
  have hm : ie.size = m := Option.some.inj hm
  have h1 : len * m ≤ 2 ^ 24 := by simpa using hsmall
  have h2 : 1 ≤ len * m := by simpa using hpos
  simp only [he, Sem.run_bind, run_buildSlice (P := P) w t e len qs.toArray cs.toArray ie z hu hi hz (by rw [hm]; omega) (by rw [hm]; omega) (by rw [hm]; simpa using hb), Result.andThen_ok, Sem.run_pure]
theorem Xt {f : FuncId} {args : List Operand} {T : Array TypeId} {xs : List Value} (E : Env vs ρ) (he : Enters P f) (ho : o.op = .call { callee := .value (.func f), args := args.toArray, argTypes := T }) (hx : Nv vs args = some xs) : (execOp ρ o).run P w = .ok (.enter f xs.toArray) w := by
 unfold execOp; rw [ho]
 have ha : args.toArray.map ρ = xs.toArray := by rw [List.map_toArray]; exact congrArg List.toArray (E.evs hx)
 simp only [resolve, ha, E.cs.2 f, Deferred.ofValue, Sem.run_bind, Sem.run_pure, Result.andThen_ok, invoke, Array.empty_append, Array.append_empty]
 exact he _ _
theorem Lr {f : FuncId} {c : Operand} {args : List Operand} {T : Array TypeId} {xs cap ys : List Value} (E : Env vs ρ) (he : Enters P f) (ho : o.op = .call { callee := .value c, args := args.toArray, argTypes := T }) (hc : opv vs c = some (.func (.func f) #[] cap.toArray)) (hx : Nv vs args = some xs) (hy : xs ++ cap = ys) : (execOp ρ o).run P w = .ok (.enter f ys.toArray) w := by
 unfold execOp; rw [ho]
 have ha : args.toArray.map ρ = xs.toArray := by rw [List.map_toArray]; exact congrArg List.toArray (E.evs hx)
 simp only [resolve, ha, E.ev hc, Deferred.ofValue, Sem.run_bind, Sem.run_pure, Result.andThen_ok, invoke, Array.empty_append]
 rw [← hy, ← List.append_toArray]
 exact he _ _
theorem MD {fn : Fn} {a b : List Operand} {xs ys : List Value} (E : Env vs ρ) (ho : o.op = .makeFunc fn a.toArray b.toArray) (hx : Nv vs a = some xs) (hy : Nv vs b = some ys) : (execOp ρ o).run P w = .ok (.value (.func fn xs.toArray ys.toArray)) w := by
 unfold execOp; rw [ho]
 have ha : a.toArray.map ρ = xs.toArray := by rw [List.map_toArray]; exact congrArg List.toArray (E.evs hx)
 have hb : b.toArray.map ρ = ys.toArray := by rw [List.map_toArray]; exact congrArg List.toArray (E.evs hy)
 simp only [Instr.makeFunc, ha, hb, Sem.run_bind, Sem.run_pure, Result.andThen_ok]
theorem BA {t e m : Nat} {x y : Operand} {a : Addr} {n c i : Nat} {k : IntKind} (E : Env vs ρ) (ho : o.op = .indexAddr t x y) (ht : P.underlying t = some (.slice e)) (hz : (P.info? e).map (·.size) = some m) (hx : opv vs x = some (.slice (some a) n c)) (hy : opv vs y = some (.int k (i : Int))) (hi : i < n) : (execOp ρ o).run P w = .ok (.value (.pointer (some (a.add (i * m))))) w := by
 unfold execOp; rw [ho]
 cases hq : P.info? e with
 | none => rw [hq] at hz; cases hz
 | some ie =>
  rw [hq] at hz
  have hz : ie.size = m := Option.some.inj hz
  have hi0 : (0 : Int) ≤ (i : Int) ∧ (i : Int) < (n : Int) := by omega
  simp [E.ev hx, E.ev hy, Instr.indexAt, asIntOf, run_underlying ht, hi, sizeOf, typeInfo, hq, hz]
end
section
variable {P : Program} {ops : Array Oper} {Q Q' : Exit → Act → World → Prop} {n : Nat} {vs : Vs} {w0 : World} {L : List Ft} {o : Oper} {rest : List Oper}
theorem Bz {i g t m off : Nat} {u : TypeId} {cs : List Value} {v : Value} {p x : Operand} (hon : GOn ops vs o.guard) (hd : o.dst = none) (ho : o.op = .store u p x) (hp : opv vs p = some (.pointer (some ⟨g, off, none⟩))) (hx : opv vs x = some v) (hi : nth L i = some (cell g t cs)) (hz : (P.info? u).map (·.size) = some m) (hm : v.cells.toList.length = m) (hl : Nat.ble (off + m) cs.length = true) (h1 : v.cells.toList.all (·.oneCell') = true)
  (h : SxL P ops Q rest n vs w0 (putF L i (cell g t (FP cs off v.cells.toList)))) : SxL P ops Q (o :: rest) n vs w0 L :=
 WG _ hon hd hi (fun ρ w E H => NC E (H.get hi) ho hp hx hz hm hl h1) h
theorem Dx {d len e : Nat} {cs : List Value} (hon : GOn ops vs o.guard) (hd : o.dst = some d) (hdn : Nat.blt d n = true)
  (hr : ∀ ρ w, Env vs ρ → Hp w0 L w → (execOp ρ o).run P w = .ok (.value (.slice (some ⟨w.heap.size, 0, none⟩) len len)) (w.alloc (.cells cs.toArray e)))
  (h : ∀ g, w0.heap.size ≤ g → SxL P ops Q rest n ((d, .slice (some ⟨g, 0, none⟩) len len) :: vs) w0 (cell g e cs :: L)) : SxL P ops Q (o :: rest) n vs w0 L := fun a w K H => by
 refine Hn (hon.on K.env) ?_
 unfold Oper.wp
 rw [hr a.eval w K.env H]
 show wpList P ops Q rest (a.put o.dst _) _
 rw [hd]
 refine h w.heap.size H.os.size _ _ (K.put hdn _) (H.add ((Below.refl _ w).alloc (Nat.le_refl _) _) _ (BR _ _ _) (fun g hg => ?_) (Blk.new w e cs.toArray))
 obtain rfl := List.mem_singleton.1 hg
 exact ⟨by rw [World.alloc, Array.size_push]; omega, Nat.le_refl _⟩
end
end Go.Proofs.YteiaiilfekojfaaGreat.Sx
end
section
set_option linter.unusedVariables false
set_option linter.unusedSimpArgs false
namespace Go.Proofs.YteiaiilfekojfaaGreat.Sx
open Go.RowKit DrawInv

structure Ks (w0 : World) (G : List Nat) (L : List Ft) (w : World) : Prop where
 os : Outs G w0 w
 fa : ∀ p ∈ L, p.φ w
theorem Ks.get {w0 w : World} {G : List Nat} {L : List Ft} (S : Ks w0 G L w) {i : Nat} {f : Ft} (h : nth L i = some f) : f.φ w := S.fa f (EU h)
theorem Hp.ks {w0 w : World} {L Lk : List Ft} (H : Hp w0 L w) (G is : List Nat) (hp : F9 L is = some Lk) (hg : allF L fun f => ∀ g ∈ f.fp, g ∈ G ∨ w0.heap.size ≤ g) : Ks w0 G Lk w :=
 ⟨H.os.mono fun g hm hlt => by
  obtain ⟨f, hf, hgf⟩ := List.mem_flatMap.1 hm
  rcases hg.mem f hf g hgf with h | h
  ·exact h
  ·omega, fun p hpm => by obtain ⟨i, _, e⟩ := JP hp p hpm; exact H.get e⟩
theorem Hp.drew {w0 w : World} {L : List Ft} (H : Hp w0 L w) : Hp w0 L w.drew := H.below (Below.refl _ w).drew
section
variable {P : Program} {ops : Array Oper} {Q : Exit → Act → World → Prop} {n : Nat} {vs : Vs} {w0 : World} {L : List Ft} {S : World → Prop} {fuel : Nat} {listed : Array Bool}
def SxA (P : Program) (ops : Array Oper) (Q : Exit → Act → World → Prop) (S : World → Prop) (fuel : Nat) (listed : Array Bool) (n : Nat) (vs : Vs) (w0 : World) (L : List Ft) : Prop := ∀ a w, Kn n vs a → Hp w0 L w → S w → wpAnyH P .any ops Q S fuel listed a w
def SxO (P : Program) (ops : Array Oper) (Q : Exit → Act → World → Prop) (S : World → Prop) (fuel : Nat) (listed : Array Bool) (i : Nat) (n : Nat) (vs : Vs) (w0 : World) (L : List Ft) : Prop := ∀ a w, Kn n vs a → Hp w0 L w → S w → wpOp P ops Q i (fun a' w' => S w' ∧ wpAnyH P .any ops Q S fuel (listed.setIfInBounds i true) a' w') a w
theorem UW {id : Nat} {l : List Oper} (S : World → Prop) (hm : P.follows .mixedOrders = true) (hS : ∀ w, Hp w0 L w → S w) (h : SxA P l.toArray Q S l.toArray.size (Array.replicate l.toArray.size false) n vs w0 L) : SxC P (.region id l.toArray true) Q n vs w0 L :=
 fun a w K H => wp_region_held_drew (S := S) hm (hS _ H.drew) fun hs => h a w.drew K H.drew hs
theorem BE (hr : Region.ready .any ops listed = []) (h : SxN Q n vs w0 L) : SxA P ops Q S fuel listed n vs w0 L := fun a w K H _ => wpAnyH_done hr (h a w K H) fuel
theorem YN {vs' : Vs} {L' : List Ft} (h : SxN Q n vs' w0 L') (hs : Sub vs' vs) (is : List Nat) (hp : F9 L is = some L') (hn : is.Nodup) (hf : Frs w0 is 0 L) : SxN Q n vs w0 L := fun a w K H => h a w (K.sub hs) (H.pick is hp hn hf)
theorem QE {i d : Nat} {oi : Oper} {v : Value} (hi : ops[i]? = some oi) (hs : Region.noSelect ops = true) (hf : Region.free .any ops listed i = true) (hr : (Region.ready .any ops listed).contains i = true) (hd : oi.dst = some d) (hdn : Nat.blt d n = true)
  (hQ : ∀ c a w, Q (.panic c) (a.put (some d) v) w → Q (.panic c) a w) (hg : GOn ops vs oi.guard) (hrun : ∀ ρ w, Env vs ρ → S w → (execOp ρ oi).run P w = .ok (.value v) w)
  (h : SxA P ops Q S fuel (listed.setIfInBounds i true) n ((d, v) :: vs) w0 L) : SxA P ops Q S (fuel + 1) listed n vs w0 L := fun a w K H hS => by
 refine wpAnyH_take hi hs hf hr (by rw [hd]; exact hQ) (.inl ⟨(hg.on K.env).wanted, fun w hS => hrun a.eval w K.env hS⟩) hS ?_
 rw [hd]
 exact h _ _ (K.put hdn v) H hS
theorem QD {i d : Nat} {oi : Oper} (hi : ops[i]? = some oi) (hs : Region.noSelect ops = true) (hf : Region.free .any ops listed i = true) (hr : (Region.ready .any ops listed).contains i = true) (hd : oi.dst = some d) (hdn : Nat.blt d n = true)
  (hQ : ∀ c a w, Q (.panic c) (a.put (some d) undef) w → Q (.panic c) a w) (hg : GOff ops vs oi.guard) (h : SxA P ops Q S fuel (listed.setIfInBounds i true) n ((d, undef) :: vs) w0 L) : SxA P ops Q S (fuel + 1) listed n vs w0 L := fun a w K H hS => by
 refine wpAnyH_take hi hs hf hr (by rw [hd]; exact hQ) (.inr ⟨(hg.off K.env).wanted, rfl⟩) hS ?_
 rw [hd]
 exact h _ _ (K.put hdn undef) H hS
theorem DW {i d : Nat} {oi : Oper} {b : Bool} (hi : ops[i]? = some oi) (hs : Region.noSelect ops = true) (hf : Region.free .any ops listed i = true) (hr : (Region.ready .any ops listed).contains i = true) (hd : oi.dst = some d) (hdn : Nat.blt d n = true)
  (hQ : ∀ c a w, Q (.panic c) (a.put (some d) (.bool b)) w → Q (.panic c) a w) (hg : GOn ops vs oi.guard) (hrun : ∀ ρ w, Env vs ρ → S w → (execOp ρ oi).run P w = .ok (.value (.bool b)) w)
  (h : ∀ t, b = t → SxA P ops Q S fuel (listed.setIfInBounds i true) n ((d, .bool t) :: vs) w0 L) : SxA P ops Q S (fuel + 1) listed n vs w0 L := QE hi hs hf hr hd hdn hQ hg hrun (h b rfl)
def allO (Q : Nat → Prop) : List Nat → Prop
 | [] => True
 | i :: l => Q i ∧ allO Q l
theorem allO.mem {Q : Nat → Prop} : ∀ {l : List Nat}, allO Q l → ∀ i ∈ l, Q i
 | [], _, _, h => by cases h
 | x :: l, hq, i, h => by
  rcases List.mem_cons.1 h with rfl | h
  ·exact hq.1
  ·exact allO.mem hq.2 i h
theorem Ed (rs : List Nat) (hr : Region.ready .any ops listed = rs) (hne : rs ≠ []) (h : allO (fun i => SxO P ops Q S fuel listed i n vs w0 L) rs) : SxA P ops Q S (fuel + 1) listed n vs w0 L := fun a w K H hS =>
 wpAnyH_all hr hne fun i hi => h.mem i hi a w K H hS
theorem M7 {a : Act} {w : World} {i : Nat} {o : Oper} {K : Act → World → Prop} (hi : ops[i]? = some o) (hon : On ops a.eval o.guard) (h : o.wp P a w K Q) : wpOp P ops Q i K a w := by
 unfold wpOp
 rw [hi]
 simp only
 rw [if_pos hon.wanted]
 exact .inl h
theorem YL {i : Nat} {o : Oper} (hi : ops[i]? = some o) (hd : o.dst = none) (hg : GOff ops vs o.guard) (h : SxA P ops Q S fuel (listed.setIfInBounds i true) n vs w0 L) : SxO P ops Q S fuel listed i n vs w0 L := fun a w K H hS => by
 unfold wpOp
 rw [hi]
 simp only
 rw [if_neg (by rw [(hg.off K.env).wanted]; decide), hd]
 exact ⟨hS, h a w K H hS⟩
theorem DZ {i d : Nat} {o : Oper} {v : Value} (hi : ops[i]? = some o) (hon : GOn ops vs o.guard) (hd : o.dst = some d) (hdn : Nat.blt d n = true) (hr : ∀ ρ w, Env vs ρ → Hp w0 L w → (execOp ρ o).run P w = .ok (.value v) w)
  (h : SxA P ops Q S fuel (listed.setIfInBounds i true) n ((d, v) :: vs) w0 L) : SxO P ops Q S fuel listed i n vs w0 L := fun a w K H hS => by
 refine M7 hi (hon.on K.env) ?_
 unfold Oper.wp
 rw [hr a.eval w K.env H]
 show S w ∧ wpAnyH _ _ _ _ _ _ _ (a.put o.dst v) w
 rw [hd]
 exact ⟨hS, h _ _ (K.put hdn v) H hS⟩
theorem YM {i d : Nat} {o : Oper} {t : TypeId} {cs : List Value} (hi : ops[i]? = some o) (hon : GOn ops vs o.guard) (hd : o.dst = some d) (hdn : Nat.blt d n = true)
  (hr : ∀ ρ w, Env vs ρ → Hp w0 L w → (execOp ρ o).run P w = .ok (.value (.pointer (some ⟨w.heap.size, 0, none⟩))) (w.alloc (.cells cs.toArray t)))
  (hS : ∀ g w, w0.heap.size ≤ g → Hp w0 (cell g t cs :: L) w → S w) (h : ∀ g, w0.heap.size ≤ g → SxA P ops Q S fuel (listed.setIfInBounds i true) n ((d, .pointer (some ⟨g, 0, none⟩)) :: vs) w0 (cell g t cs :: L)) : SxO P ops Q S fuel listed i n vs w0 L := fun a w K H _ => by
 refine M7 hi (hon.on K.env) ?_
 unfold Oper.wp
 rw [hr a.eval w K.env H]
 show S _ ∧ wpAnyH _ _ _ _ _ _ _ (a.put o.dst _) _
 rw [hd]
 have H' := H.add ((Below.refl _ w).alloc (Nat.le_refl _) (.cells cs.toArray t)) _ (BR _ _ _) (fun g hg => by
  obtain rfl := List.mem_singleton.1 hg
  exact ⟨by rw [World.alloc, Array.size_push]; omega, Nat.le_refl _⟩) (Blk.new w t cs.toArray)
 exact ⟨hS _ _ H.os.size H', h _ H.os.size _ _ (K.put hdn _) H' (hS _ _ H.os.size H')⟩
theorem Dc {i d len e : Nat} {o : Oper} {cs : List Value} (hi : ops[i]? = some o) (hon : GOn ops vs o.guard) (hd : o.dst = some d) (hdn : Nat.blt d n = true)
  (hr : ∀ ρ w, Env vs ρ → Hp w0 L w → (execOp ρ o).run P w = .ok (.value (.slice (some ⟨w.heap.size, 0, none⟩) len len)) (w.alloc (.cells cs.toArray e)))
  (hS : ∀ g w, w0.heap.size ≤ g → Hp w0 (cell g e cs :: L) w → S w) (h : ∀ g, w0.heap.size ≤ g → SxA P ops Q S fuel (listed.setIfInBounds i true) n ((d, .slice (some ⟨g, 0, none⟩) len len) :: vs) w0 (cell g e cs :: L)) : SxO P ops Q S fuel listed i n vs w0 L := fun a w K H _ => by
 refine M7 hi (hon.on K.env) ?_
 unfold Oper.wp
 rw [hr a.eval w K.env H]
 show S _ ∧ wpAnyH _ _ _ _ _ _ _ (a.put o.dst _) _
 rw [hd]
 have H' := H.add ((Below.refl _ w).alloc (Nat.le_refl _) (.cells cs.toArray e)) _ (BR _ _ _) (fun g hg => by
  obtain rfl := List.mem_singleton.1 hg
  exact ⟨by rw [World.alloc, Array.size_push]; omega, Nat.le_refl _⟩) (Blk.new w e cs.toArray)
 exact ⟨hS _ _ H.os.size H', h _ H.os.size _ _ (K.put hdn _) H' (hS _ _ H.os.size H')⟩
theorem WF {i j g : Nat} {o : Oper} {t : TypeId} {cs : List Value} (cs' : List Value) (hi : ops[i]? = some o) (hon : GOn ops vs o.guard) (hd : o.dst = none) (hj : nth L j = some (cell g t cs))
  (hr : ∀ ρ w, Env vs ρ → Hp w0 L w → ∃ w', (execOp ρ o).run P w = .ok .skip w' ∧ Blk w' g t cs'.toArray ∧ w.grownBy w' (some g))
  (hS : ∀ w, Hp w0 (putF L j (cell g t cs')) w → S w) (h : SxA P ops Q S fuel (listed.setIfInBounds i true) n vs w0 (putF L j (cell g t cs'))) : SxO P ops Q S fuel listed i n vs w0 L := fun a w K H _ => by
 refine M7 hi (hon.on K.env) ?_
 unfold Oper.wp
 obtain ⟨w', hr, hb, hg⟩ := hr a.eval w K.env H
 rw [hr]
 show S _ ∧ wpAnyH _ _ _ _ _ _ _ (a.put o.dst _) _
 rw [hd]
 have H' := H.chg hj (cell g t cs') (Outs.of_grown hg (List.mem_singleton.2 rfl)) (BR _ _ _) (fun g' hg' => by
  obtain rfl := List.mem_singleton.1 hg'
  exact ⟨hb.lt, .inl (List.mem_singleton.2 rfl)⟩) (fun g' hg' => .inl hg') hb
 exact ⟨hS _ H', h _ _ K H' (hS _ H')⟩
theorem GK {i j g t m off : Nat} {o : Oper} {u : TypeId} {cs : List Value} {v : Value} {p x : Operand} (hi : ops[i]? = some o) (hon : GOn ops vs o.guard) (hd : o.dst = none) (ho : o.op = .store u p x) (hp : opv vs p = some (.pointer (some ⟨g, off, none⟩))) (hx : opv vs x = some v) (hj : nth L j = some (cell g t cs)) (hz : (P.info? u).map (·.size) = some m) (hm : v.cells.toList.length = m) (hl : Nat.ble (off + m) cs.length = true) (h1 : v.cells.toList.all (·.oneCell') = true)
  (hS : ∀ w, Hp w0 (putF L j (cell g t (FP cs off v.cells.toList))) w → S w) (h : SxA P ops Q S fuel (listed.setIfInBounds i true) n vs w0 (putF L j (cell g t (FP cs off v.cells.toList)))) : SxO P ops Q S fuel listed i n vs w0 L :=
 WF _ hi hon hd hj (fun ρ w E H => NC E (H.get hj) ho hp hx hz hm hl h1) hS h
theorem G0 {σ : Type} {i d f : Nat} {o : Oper} {args : Array Value} (v : σ → Value) (F : σ → Prop) (L' : σ → List Ft) (hi : ops[i]? = some o) (hon : GOn ops vs o.guard) (hd : o.dst = some d) (hdn : Nat.blt d n = true)
  (hr : ∀ ρ w, Env vs ρ → (execOp ρ o).run P w = .ok (.enter f args) w) (hc : ∀ w, Hp w0 L w → Calls P f args w fun e w' => ∃ s, e = .returned (v s) ∧ F s ∧ Hp w0 (L' s) w')
  (hS : ∀ s w, F s → Hp w0 (L' s) w → S w) (h : ∀ s, F s → SxA P ops Q S fuel (listed.setIfInBounds i true) n ((d, v s) :: vs) w0 (L' s)) : SxO P ops Q S fuel listed i n vs w0 L := fun a w K H _ => by
 refine M7 hi (hon.on K.env) ?_
 unfold Oper.wp
 rw [hr a.eval w K.env, Oper.upon_enter]
 refine (hc w H).mono fun e w' he => ?_
 obtain ⟨s, rfl, hF, H'⟩ := he
 show S _ ∧ wpAnyH _ _ _ _ _ _ _ (a.put o.dst _) _
 rw [hd]
 exact ⟨hS s _ hF H', h s hF _ _ (K.put hdn _) H' (hS s _ hF H')⟩
theorem BO {i d f : Nat} {o : Oper} {args : Array Value} {v : Value} (hi : ops[i]? = some o) (hon : GOn ops vs o.guard) (hd : o.dst = some d) (hdn : Nat.blt d n = true)
  (hr : ∀ ρ w, Env vs ρ → (execOp ρ o).run P w = .ok (.enter f args) w) (hc : ∀ w, Hp w0 L w → Calls P f args w fun e w' => e = .returned v ∧ Below w.heap.size w w')
  (hS : ∀ w, Hp w0 L w → S w) (h : SxA P ops Q S fuel (listed.setIfInBounds i true) n ((d, v) :: vs) w0 L) : SxO P ops Q S fuel listed i n vs w0 L :=
 G0 (σ := Unit) (fun _ => v) (fun _ => True) (fun _ => L) hi hon hd hdn hr (fun w H => (hc w H).mono fun _ _ he => ⟨(), he.1, trivial, H.below he.2⟩) (fun _ w _ H => hS w H) (fun _ _ => h)
end
end Go.Proofs.YteiaiilfekojfaaGreat.Sx
end
section
set_option linter.unusedVariables false
set_option linter.unusedSimpArgs false
namespace Go.Proofs.YteiaiilfekojfaaGreat.Sx
open Go.RowKit DrawInv

theorem Hp.two {w0 w w' : World} {R : List Ft} {f g : Ft} (H : Hp w0 (f :: g :: R) w) (f' g' : Ft) (hc : Outs (f.fp ++ g.fp) w w') (hl : f'.Loc) (hl2 : g'.Loc)
  (hf1 : ∀ b ∈ f'.fp, b < w'.heap.size ∧ (b ∈ f.fp ∨ w.heap.size ≤ b)) (hg1 : ∀ b ∈ g'.fp, b < w'.heap.size ∧ (b ∈ g.fp ∨ w.heap.size ≤ b)) (hd : ∀ b ∈ f'.fp, b ∉ g'.fp)
  (hfr : ∀ b ∈ f.fp, b ∈ f'.fp ∨ w0.heap.size ≤ b) (hgr : ∀ b ∈ g.fp, b ∈ g'.fp ∨ w0.heap.size ≤ b) (hf : f'.φ w') (hg : g'.φ w') : Hp w0 (f' :: g' :: R) w' := by
 obtain ⟨d1, d2⟩ := List.pairwise_cons.1 H.dj
 obtain ⟨d3, d4⟩ := List.pairwise_cons.1 d2
 have okf := H.ok f (List.mem_cons_self ..)
 have okg := H.ok g (List.mem_cons_of_mem _ (List.mem_cons_self ..))
 have okr : ∀ p ∈ R, p.Loc ∧ (∀ b ∈ p.fp, b < w.heap.size) ∧ p.φ w := fun p hp => H.ok p (List.mem_cons_of_mem _ (List.mem_cons_of_mem _ hp))
 refine ⟨?_, ?_, fun p hp => ?_⟩
 ·refine (H.os.then_ hc fun b hb _ => ?_).mono fun b hb hlt => ?_
  ·simp only [List.flatMap_cons, List.mem_append] at hb ⊢
   rcases hb with h | h
   ·exact .inl h
   ·exact .inr (.inl h)
  ·simp only [List.flatMap_cons, List.mem_append] at hb ⊢
   rcases hb with h | h | h
   ·rcases hfr b h with h | h
    ·exact .inl h
    ·omega
   ·rcases hgr b h with h | h
    ·exact .inr (.inl h)
    ·omega
   ·exact .inr (.inr h)
 ·refine List.pairwise_cons.2 ⟨fun q hq b hb hbq => ?_, List.pairwise_cons.2 ⟨fun q hq b hb hbq => ?_, d4⟩⟩
  ·rcases List.mem_cons.1 hq with rfl | hq
   ·exact hd b hb hbq
   ·rcases (hf1 b hb).2 with h | h
    ·exact d1 q (List.mem_cons_of_mem _ hq) b h hbq
    ·have := (okr q hq).2.1 b hbq; omega
  ·rcases (hg1 b hb).2 with h | h
   ·exact d3 q hq b h hbq
   ·have := (okr q hq).2.1 b hbq; omega
 ·rcases List.mem_cons.1 hp with rfl | hp
  ·exact ⟨hl, fun b hb => (hf1 b hb).1, hf⟩
  rcases List.mem_cons.1 hp with rfl | hp
  ·exact ⟨hl2, fun b hb => (hg1 b hb).1, hg⟩
  obtain ⟨h1, h2, h3⟩ := okr p hp
  refine ⟨h1, fun b hb => Nat.lt_of_lt_of_le (h2 b hb) hc.size, h1 w w' (fun b hb => hc.block b (h2 b hb) fun hx => ?_) h3⟩
  rcases List.mem_append.1 hx with h | h
  ·exact d1 p (List.mem_cons_of_mem _ hp) b h hb
  ·exact d3 p hp b h hb
theorem Hp.re {w0 w : World} {L : List Ft} (H : Hp w0 L w) {i : Nat} {f : Ft} (hi : nth L i = some f) (f' : Ft) (hl : f'.Loc) (he : f'.fp = f.fp) (hf : f.φ w → f'.φ w) : Hp w0 (putF L i f') w :=
 H.chg hi f' (Outs.refl _ _) hl (fun g hg => ⟨(H.ok f (EU hi)).2.1 g (he ▸ hg), .inl (he ▸ hg)⟩) (fun g hg => .inl (he ▸ hg)) (hf (H.get hi))
section
variable {P : Program} {ops : Array Oper} {Q Q' : Exit → Act → World → Prop} {n : Nat} {vs : Vs} {w0 : World} {L : List Ft} {o : Oper} {rest : List Oper} {S : World → Prop} {fuel : Nat} {listed : Array Bool}
theorem BN {id : Nat} {l : List Oper} {Lk : List Ft} (G is : List Nat) (hm : P.follows .mixedOrders = true) (hp : F9 L is = some Lk) (hg : allF L fun f => ∀ g ∈ f.fp, g ∈ G ∨ w0.heap.size ≤ g)
  (h : SxA P l.toArray Q (Ks w0 G Lk) l.toArray.size (Array.replicate l.toArray.size false) n vs w0 L) : SxC P (.region id l.toArray true) Q n vs w0 L := UW _ hm (fun w H => H.ks G is hp hg) h
theorem YD {i d : Nat} {o : Oper} {b : Bool} (hi : ops[i]? = some o) (hon : GOn ops vs o.guard) (hd : o.dst = some d) (hdn : Nat.blt d n = true) (hr : ∀ ρ w, Env vs ρ → Hp w0 L w → (execOp ρ o).run P w = .ok (.value (.bool b)) w)
  (h : ∀ t, b = t → SxA P ops Q S fuel (listed.setIfInBounds i true) n ((d, .bool t) :: vs) w0 L) : SxO P ops Q S fuel listed i n vs w0 L := DZ hi hon hd hdn hr (h b rfl)
theorem CN {d f : Nat} {args : Array Value} {b : Bool} (hon : GOn ops vs o.guard) (hd : o.dst = some d) (hdn : Nat.blt d n = true)
  (hr : ∀ ρ w, Env vs ρ → (execOp ρ o).run P w = .ok (.enter f args) w) (hc : ∀ w, Hp w0 L w → Calls P f args w fun e w' => e = .returned (.bool b) ∧ Below w.heap.size w w')
  (h : ∀ t, b = t → SxL P ops Q rest n ((d, .bool t) :: vs) w0 L) : SxL P ops Q (o :: rest) n vs w0 L := Ao hon hd hdn hr hc (h b rfl)
theorem Y2 {i d f : Nat} {o : Oper} {args : Array Value} {b : Bool} (hi : ops[i]? = some o) (hon : GOn ops vs o.guard) (hd : o.dst = some d) (hdn : Nat.blt d n = true)
  (hr : ∀ ρ w, Env vs ρ → (execOp ρ o).run P w = .ok (.enter f args) w) (hc : ∀ w, Hp w0 L w → Calls P f args w fun e w' => e = .returned (.bool b) ∧ Below w.heap.size w w')
  (hS : ∀ w, Hp w0 L w → S w) (h : ∀ t, b = t → SxA P ops Q S fuel (listed.setIfInBounds i true) n ((d, .bool t) :: vs) w0 L) : SxO P ops Q S fuel listed i n vs w0 L := BO hi hon hd hdn hr hc hS (h b rfl)
def XI (Q : Exit → Act → World → Prop) (K : Act → World → Prop) : Exit → Act → World → Prop
 | .normal, a, w => K a w
 | e, a, w => Q e a w
def At0 {σ : Type} (n : Nat) (w0 : World) (V : σ → Vs) (LF : σ → List Ft) (F : σ → Prop) (a : Act) (w : World) : Prop := ∃ s, F s ∧ Kn n (V s) a ∧ Hp w0 (LF s) w
theorem QC {σ : Type} {c : Code} (V : σ → Vs) (LF : σ → List Ft) (F : σ → Prop) (first : SxC P c (XI Q (At0 n w0 V LF F)) n vs w0 L) (rest : ∀ s, F s → SxN Q n (V s) w0 (LF s)) : SxC P c Q n vs w0 L := fun a w K H => by
 refine wp_mono (first a w K H) fun e a w h => ?_
 cases e with
 | normal => obtain ⟨s, hF, K', H'⟩ := h; exact rest s hF a w K' H'
 | exit id => exact h
 | goto l => exact h
 | ret => exact h
 | panic ch => exact h
 | outgrown => exact h
theorem JI {α : Type} {c : Code} (V : α → Vs) (LF : α → List Ft) (F : α → Prop) (first : SxC P c (XI Q (At0 n w0 V LF F)) n vs w0 L) (rest : ∀ a, F a → SxN Q n (V a) w0 (LF a)) : SxC P c Q n vs w0 L := QC V LF F first rest
theorem Bn {σ : Type} {V : σ → Vs} {LF : σ → List Ft} {F : σ → Prop} (s : σ) (hF : F s) (hs : Sub (V s) vs) (is : List Nat) (hp : F9 L is = some (LF s)) (hn : is.Nodup) (hf : Frs w0 is 0 L) : SxN (XI Q (At0 n w0 V LF F)) n vs w0 L :=
 fun a w K H => ⟨s, hF, K.sub hs, H.pick is hp hn hf⟩
theorem Ff {α : Type} {c : Code} (vF : α → Vs) (LF : α → List Ft) (F : Nat → α → Prop) (k0 : Nat) (a0 : α) (h0 : F k0 a0) (hs : Sub (vF a0) vs) (is : List Nat) (hp : F9 L is = some (LF a0)) (hn : is.Nodup) (hf : Frs w0 is 0 L)
  (round : ∀ k a, F k a → SxC P c (Exit.then (Sr n w0 vF LF F k) Q) n (vF a) w0 (LF a)) : SxC P (.loop c) Q n vs w0 L := JH vF LF F k0 a0 h0 hs is hp hn hf round
theorem Ec {α β : Type} {c : Code} (vF : α → β → Vs) (LF : α → β → List Ft) (F : Nat → α → β → Prop) (k0 : Nat) (a0 : α) (b0 : β) (h0 : F k0 a0 b0) (hs : Sub (vF a0 b0) vs) (is : List Nat) (hp : F9 L is = some (LF a0 b0)) (hn : is.Nodup) (hf : Frs w0 is 0 L)
  (round : ∀ k a b, F k a b → SxC P c (Exit.then (Sr (σ := α × β) n w0 (fun s => vF s.1 s.2) (fun s => LF s.1 s.2) (fun k s => F k s.1 s.2) k) Q) n (vF a b) w0 (LF a b)) : SxC P (.loop c) Q n vs w0 L := JH (fun s : α × β => vF s.1 s.2) (fun s => LF s.1 s.2) (fun k s => F k s.1 s.2) k0 (a0, b0) h0 hs is hp hn hf fun k s h => round k s.1 s.2 h
theorem UV {α β γ : Type} {c : Code} (vF : α → β → γ → Vs) (LF : α → β → γ → List Ft) (F : Nat → α → β → γ → Prop) (k0 : Nat) (a0 : α) (b0 : β) (c0 : γ) (h0 : F k0 a0 b0 c0) (hs : Sub (vF a0 b0 c0) vs) (is : List Nat) (hp : F9 L is = some (LF a0 b0 c0)) (hn : is.Nodup) (hf : Frs w0 is 0 L)
  (round : ∀ k a b d, F k a b d → SxC P c (Exit.then (Sr (σ := α × β × γ) n w0 (fun s => vF s.1 s.2.1 s.2.2) (fun s => LF s.1 s.2.1 s.2.2) (fun k s => F k s.1 s.2.1 s.2.2) k) Q) n (vF a b d) w0 (LF a b d)) : SxC P (.loop c) Q n vs w0 L := JH (fun s : α × β × γ => vF s.1 s.2.1 s.2.2) (fun s => LF s.1 s.2.1 s.2.2) (fun k s => F k s.1 s.2.1 s.2.2) k0 (a0, b0, c0) h0 hs is hp hn hf fun k s h => round k s.1 s.2.1 s.2.2 h
theorem Kw {α β γ δ : Type} {c : Code} (vF : α → β → γ → δ → Vs) (LF : α → β → γ → δ → List Ft) (F : Nat → α → β → γ → δ → Prop) (k0 : Nat) (a0 : α) (b0 : β) (c0 : γ) (d0 : δ) (h0 : F k0 a0 b0 c0 d0) (hs : Sub (vF a0 b0 c0 d0) vs) (is : List Nat) (hp : F9 L is = some (LF a0 b0 c0 d0)) (hn : is.Nodup) (hf : Frs w0 is 0 L)
  (round : ∀ k a b d e, F k a b d e → SxC P c (Exit.then (Sr (σ := α × β × γ × δ) n w0 (fun s => vF s.1 s.2.1 s.2.2.1 s.2.2.2) (fun s => LF s.1 s.2.1 s.2.2.1 s.2.2.2) (fun k s => F k s.1 s.2.1 s.2.2.1 s.2.2.2) k) Q) n (vF a b d e) w0 (LF a b d e)) : SxC P (.loop c) Q n vs w0 L := JH (fun s : α × β × γ × δ => vF s.1 s.2.1 s.2.2.1 s.2.2.2) (fun s => LF s.1 s.2.1 s.2.2.1 s.2.2.2) (fun k s => F k s.1 s.2.1 s.2.2.1 s.2.2.2) k0 (a0, b0, c0, d0) h0 hs is hp hn hf fun k s h => round k s.1 s.2.1 s.2.2.1 s.2.2.2 h
theorem CZ {p : Prop} (hp : ∀ w, Hp w0 L w → p) (h : p → SxL P ops Q rest n vs w0 L) : SxL P ops Q rest n vs w0 L := fun a w K H => h (hp w H) a w K H
theorem YE {p : Prop} (hp : ∀ w, Hp w0 L w → p) (h : p → SxN Q n vs w0 L) : SxN Q n vs w0 L := fun a w K H => h (hp w H) a w K H
theorem Ep {c : Code} {L' : List Ft} (hp : ∀ w, Hp w0 L w → Hp w0 L' w) (h : SxC P c Q n vs w0 L') : SxC P c Q n vs w0 L := fun a w K H => h a w K (hp w H)
theorem KP {L' : List Ft} (hp : ∀ w, Hp w0 L w → Hp w0 L' w) (h : SxN Q n vs w0 L') : SxN Q n vs w0 L := fun a w K H => h a w K (hp w H)
theorem Si {L' : List Ft} (hp : ∀ w, Hp w0 L w → Hp w0 L' w) (h : SxL P ops Q rest n vs w0 L') : SxL P ops Q rest n vs w0 L := fun a w K H => h a w K (hp w H)
end
end Go.Proofs.YteiaiilfekojfaaGreat.Sx
end
section
namespace Go.Proofs.YteiaiilfekojfaaGreat
open Go.RowKit Go.WideShapes Go.ChangeShapes
variable {H : Type} {enc : TypeId × Value → H} {P : Program} {w : World} {base : Nat}

theorem X7 {a : Addr} {v : Value} (h : w.cell? a = some v) : a.block < w.heap.size := by
 rcases Nat.lt_or_ge a.block w.heap.size with hl | hl
 ·exact hl
 ·unfold World.cell? at h
  rw [Array.getElem?_eq_none hl] at h
  cases h

end Go.Proofs.YteiaiilfekojfaaGreat
end
section
namespace Go.Proofs.YteiaiilfekojfaaGreat
open Go.Joins Go.RowKit Go.WideShapes Go.ChangeShapes Go.Deep

def CQ (P : Program) (w : World) : Nat → TypeId → List Value → Prop
 | 0, _, _ => False
 | n + 1, t, cs =>
  match P.underlying t with
  | some .bool => ∃ b, cs = [.bool b]
  | some (.int k) => ∃ z, cs = [.int k z] ∧ (Lit.int k z).wf = true
  | some .string => ∃ l : List UInt8, cs = [.string ⟨l.toArray⟩] ∧ l.length ≤ 9223372036854775807
  | some (.struct fs) => cs.length = P.cellsOf t ∧ ∀ (j : Nat) (f : Field), fs[j]? = some f → CQ P w n f.type ((cs.drop f.offset).take (P.cellsOf f.type))
  | some (.array k e) => cs.length = P.cellsOf t ∧ ∀ i, i < k → CQ P w n e ((cs.drop (i * P.cellsOf e)).take (P.cellsOf e))
  | some (.slice e) => cs = [.slice none 0 0] ∨ ∃ a len cap, cs = [.slice (some a) len cap] ∧ len ≤ cap ∧ cap ≤ 9223372036854775807 ∧
    ∀ i, i < len → ∃ es : List Value, es.length = P.cellsOf e ∧ CQ P w n e es ∧ ∀ j v, es[j]? = some v → w.cell? (a.add (i * P.cellsOf e + j)) = some v
  | _ => True

section
variable {H : Type} {enc : TypeId × Value → H} {P : Program} {w : World} {base : Nat} {spare : Nat → Bool} {held : Bool}
theorem Ll : ∀ (n : Nat) (t : TypeId) (cs : List Value) (x : DataW H × List MemPlace), DataW.trod enc P w base spare held n t cs = some x → CQ P w n t cs
 | 0, _, _, _, h => by simp [DataW.trod] at h
 | n + 1, t, cs, x, h => by
  unfold CQ
  split
  ·rename_i hu
   unfold DataW.trod at h
   rw [hu] at h
   split at h <;> simp_all
  ·rename_i k hu
   obtain ⟨z, hz, _, hw⟩ := DataW.trod_int hu h
   exact ⟨z, hz, hw⟩
  ·rename_i hu
   obtain ⟨s, hs, _, hw⟩ := DataW.trod_string hu h
   obtain ⟨⟨l⟩⟩ := s
   exact ⟨l, hs, by
    have e : (ByteArray.mk l.toArray).size = l.length := by simp [ByteArray.size]
    unfold maxLen at hw
    rw [e] at hw
    omega⟩
  ·rename_i fs hu
   obtain ⟨xs, m, hm, _, hl, hlen, hf⟩ := DataW.trod_struct hu h
   obtain rfl : n = m := by omega
   refine ⟨hl, fun j f hj => ?_⟩
   have hjl : j < xs.length := by rw [hlen]; exact (Array.getElem?_eq_some_iff.1 hj).1
   exact Ll n _ _ _ ((hf j f hj).trans (List.getElem?_eq_getElem hjl))
  ·rename_i k e hu
   obtain ⟨xs, m, hm, _, hl, hlen, hf⟩ := DataW.trod_array hu h
   obtain rfl : n = m := by omega
   refine ⟨hl, fun i hi => ?_⟩
   exact Ll n _ _ _ ((hf i hi).trans (List.getElem?_eq_getElem (by omega)))
  ·rename_i e hu
   rcases DataW.trod_slice hu h with ⟨h0, _⟩ | ⟨a, len, cap, elems, rest, m, hm, rfl, _, hb, hl, hc, hlen, hel, _, _⟩
   ·exact .inl h0
   ·obtain rfl : n = m := by omega
    refine .inr ⟨a, len, cap, rfl, hl, by unfold maxLen at hc; omega, fun i hi => ?_⟩
    obtain ⟨cs', hc, ht'⟩ := Option.bind_eq_some_iff.1 ((hel i hi).trans (List.getElem?_eq_getElem (by omega)))
    obtain ⟨_, hcl, hat⟩ := World.cells?_some hc
    refine ⟨cs', hcl, Ll n _ _ _ ht', fun j v hj => ?_⟩
    have hjl : j < cs'.length := (List.getElem?_eq_some_iff.1 hj).1
    rw [← Go.Deep.add_add, hat j (by omega), hj]
  ·trivial
theorem R7 {t : TypeId} {v : Value} {d : DataW H} {p : List MemPlace} (h : DataW.Trod enc P w base spare held t v d p) : ∃ n, CQ P w n t v.cells.toList := by
 obtain ⟨n, hn⟩ := h
 exact ⟨n, Ll n _ _ _ hn⟩
end

def Rows {α : Type} (w : World) (A : Option Addr) (sz : Nat) (cells : α → List Value) (l : List α) : Prop :=
 ∀ (k : Nat) (x : α), l[k]? = some x → ∃ ad, A = some ad ∧ ad.block < w.heap.size ∧ ∀ (j : Nat) (v : Value), (cells x)[j]? = some v → w.cell? (ad.add (k * sz + j)) = some v
section
variable {α : Type} {w w' : World} {A : Option Addr} {sz : Nat} {cells : α → List Value} {l : List α}
theorem Rows.below (h : Rows w A sz cells l) (hb : Below w.heap.size w w') : Rows w' A sz cells l := by
 intro k x hk
 obtain ⟨ad, e, hl, h0⟩ := h k x hk
 exact ⟨ad, e, Nat.lt_of_lt_of_le hl hb.size, fun j v hj => (hb.cell (by rw [Dw]; exact hl)).trans (h0 j v hj)⟩
theorem Rows.nil (w : World) (A : Option Addr) (sz : Nat) (cells : α → List Value) : Rows w A sz cells [] := by intro k b hb; simp at hb
theorem XF (ad : Addr) (n j : Nat) : ({ block := (ad.add n).block, off := (ad.add n).off + (j + 1) } : Addr) = ad.add (n + (j + 1)) := by
 unfold Addr.add
 by_cases h : n = 0 <;> simp [h, Nat.add_assoc]
theorem Rows.at_ (h : Rows w A sz cells l) {k : Nat} {x : α} (hk : l[k]? = some x) : ∃ ad, A = some ad ∧ ad.block < w.heap.size ∧
  (∀ v, (cells x)[0]? = some v → w.cell? (ad.add (k * sz)) = some v) ∧
  (∀ (j : Nat) (v : Value), (cells x)[j + 1]? = some v → w.cell? { block := (ad.add (k * sz)).block, off := (ad.add (k * sz)).off + (j + 1) } = some v) := by
 obtain ⟨ad, e, hl, h0⟩ := h k x hk
 refine ⟨ad, e, hl, fun v hv => h0 0 v hv, fun j v hv => ?_⟩
 rw [XF]
 exact h0 (j + 1) v hv
theorem OS {a : Addr} {m : Nat} {Q : α → Prop} (h : ∀ i, i < m → ∃ x, Q x ∧ ∃ es : List Value, es = cells x ∧ ∀ j v, es[j]? = some v → w.cell? (a.add (i * sz + j)) = some v) (hne : ∀ x, 0 < (cells x).length) :
  ∃ l : List α, l.length = m ∧ (∀ x ∈ l, Q x) ∧ Rows w (some a) sz cells l := by
 refine ⟨List.ofFn fun i : Fin m => Classical.choose (h i.1 i.2), by simp, ?_, ?_⟩
 ·intro x hx
  obtain ⟨i, rfl⟩ := List.mem_ofFn.1 hx
  exact (Classical.choose_spec (h i.1 i.2)).1
 ·intro k x hk
  rw [List.getElem?_ofFn] at hk
  split at hk
  ·rename_i hkm
   obtain rfl := Option.some.inj hk
   obtain ⟨_, es, he, hc⟩ := Classical.choose_spec (h k hkm)
   generalize Classical.choose (h k hkm) = x at *
   subst he
   refine ⟨a, rfl, ?_, hc⟩
   have h0 := hc 0 _ (List.getElem?_eq_getElem (hne x))
   have := X7 h0
   rwa [Dw] at this
  ·cases hk
theorem Ui {H : Type} {enc : TypeId × Value → H} {P : Program} {base : Nat} {t e : TypeId} {v : Value} {d : DataW H} {p : List MemPlace} {r : Reach} {Q : α → Prop}
  (ht : P.underlying t = some (.slice e)) (hsz : P.cellsOf e = sz) (hne : ∀ x, 0 < (cells x).length) (dec : ∀ n es, es.length = sz → CQ P w n e es → ∃ x, Q x ∧ es = cells x)
  (h : DataW.Trod enc P w 0 (fun _ => true) true t v d p) (hk : Value.okWide P w r base t v) :
  ∃ (A : Option Addr) (c : Nat) (l : List α), v = .slice A l.length c ∧ Rows w A sz cells l ∧ (∀ x ∈ l, Q x) ∧ l.length ≤ 9223372036854775807 := by
 obtain ⟨a0, len, cap, rfl⟩ := okWide_slice ht hk
 obtain ⟨n, hn⟩ := R7 h
 cases n with
 | zero => exact hn.elim
 | succ n =>
  unfold CQ at hn
  rw [ht] at hn
  simp only at hn
  rcases hn with h0 | ⟨a, len', cap', h0, hl, hc, hi⟩
  ·simp only [Value.cells, List.cons.injEq, Value.slice.injEq, and_true] at h0
   obtain ⟨rfl, rfl, rfl⟩ := h0
   exact ⟨none, 0, [], rfl, Rows.nil _ _ _ _, by simp, by simp⟩
  ·simp only [Value.cells, List.cons.injEq, Value.slice.injEq, and_true] at h0
   obtain ⟨rfl, rfl, rfl⟩ := h0
   obtain ⟨l, h1, h2, h3⟩ := OS (w := w) (sz := sz) (cells := cells) (a := a) (m := len) (Q := Q) (fun i hil => by
    obtain ⟨es, e1, e2, e3⟩ := hi i hil
    obtain ⟨x, hx, he⟩ := dec n es (by rw [e1, hsz]) e2
    exact ⟨x, hx, es, he, by rw [hsz] at e3; exact e3⟩) hne
   exact ⟨some a, _, l, by rw [h1], h3, h2, by omega⟩
theorem Du {P : Program} {n : Nat} {t : TypeId} {k : IntKind} {cs : List Value} (ht : P.underlying t = some (.int k)) (h : CQ P w n t cs) : ∃ z, cs = [.int k z] ∧ (Lit.int k z).wf = true := by
 cases n with
 | zero => exact h.elim
 | succ n => unfold CQ at h; rw [ht] at h; exact h
theorem Fp {P : Program} {n : Nat} {t : TypeId} {cs : List Value} (ht : P.underlying t = some .string) (h : CQ P w n t cs) : ∃ l : List UInt8, cs = [.string ⟨l.toArray⟩] ∧ l.length ≤ 9223372036854775807 := by
 cases n with
 | zero => exact h.elim
 | succ n => unfold CQ at h; rw [ht] at h; exact h
theorem EP {P : Program} {n : Nat} {t : TypeId} {fs : Array Field} {cs : List Value} (ht : P.underlying t = some (.struct fs)) (h : CQ P w n t cs) :
  ∃ m, cs.length = P.cellsOf t ∧ ∀ (j : Nat) (f : Field), fs[j]? = some f → CQ P w m f.type ((cs.drop f.offset).take (P.cellsOf f.type)) := by
 cases n with
 | zero => exact h.elim
 | succ n => unfold CQ at h; rw [ht] at h; exact ⟨n, h⟩
end
end Go.Proofs.YteiaiilfekojfaaGreat
end
section
namespace Go.Proofs.YteiaiilfekojfaaGreat
open Go.RowKit

section
variable {α : Type} {w w' : World} {A : Option Addr} {sz : Nat} {cells : α → List Value} {l : List α}
theorem MB (hc : ∀ x, (cells x).length = sz) (l : List α) : (l.flatMap cells).length = l.length * sz := by
 induction l with
 | nil => simp
 | cons x l ih => rw [List.flatMap_cons, List.length_append, ih, hc, List.length_cons, Nat.succ_mul]; omega
theorem Ln (hc : ∀ x, (cells x).length = sz) : ∀ (l : List α) (k j : Nat), j < sz → (l.flatMap cells)[k * sz + j]? = (l[k]?).bind fun x => (cells x)[j]?
 | [], k, j, _ => by simp
 | x :: l, 0, j, hj => by
  rw [List.flatMap_cons, Nat.zero_mul, Nat.zero_add, List.getElem?_append_left (by rw [hc]; exact hj)]
  rfl
 | x :: l, k + 1, j, hj => by
  rw [List.flatMap_cons, List.getElem?_append_right (by rw [hc, Nat.succ_mul]; omega), hc, show (k + 1) * sz + j - sz = k * sz + j from by rw [Nat.succ_mul]; omega, Ln hc l k j hj]
  rfl
theorem En (hc : ∀ x, (cells x).length = sz) (hs : 0 < sz) (h : Rows w A sz cells l) : Reads w w.heap.size sz A l.length (l.flatMap cells) := by
 refine ⟨MB hc l, fun hn => ?_⟩
 obtain ⟨ad, rfl, hb, _⟩ := h 0 l[0] (List.getElem?_eq_getElem hn)
 refine ⟨ad, rfl, hb, fun i u hu => ?_⟩
 have hi : i = (i / sz) * sz + i % sz := by rw [Nat.mul_comm]; exact (Nat.div_add_mod i sz).symm
 have hm := Nat.mod_lt i hs
 rw [hi, Ln hc l _ _ hm] at hu
 obtain ⟨x, hx, hv⟩ := Option.bind_eq_some_iff.1 hu
 obtain ⟨ad', e, _, hcell⟩ := h _ x hx
 obtain rfl := Option.some.inj e
 rw [hi]
 exact hcell _ u hv
theorem Re (hc : ∀ x, (cells x).length = sz) (h : Reads w w.heap.size sz A l.length (l.flatMap cells)) : Rows w A sz cells l := by
 intro k x hk
 obtain ⟨hkl, _⟩ := List.getElem?_eq_some_iff.1 hk
 obtain ⟨ad, rfl, hb, hcell⟩ := h.2 (by omega)
 refine ⟨ad, rfl, hb, fun j v hv => hcell _ v ?_⟩
 have hj : j < sz := by have := (List.getElem?_eq_some_iff.1 hv).1; rw [hc] at this; exact this
 rw [Ln hc l k j hj, hk]
 exact hv
theorem ID {base : Nat} {e : TypeId} {v : Value} (hc : ∀ x, (cells x).length = sz) (hs : 0 < sz) (h : w.ownsRow base e sz v l.length (l.flatMap cells)) : ∃ A c, v = .slice A l.length c ∧ l.length ≤ c ∧ Rows w A sz cells l := by
 have h' := h
 rcases h.2 with ⟨rfl, h0⟩ | ⟨g, cap, cur, rfl, _, _, hcp, _⟩
 ·have hl : l.length = 0 := by
   have := MB hc l
   rw [h0] at this
   rcases Nat.eq_zero_or_pos l.length with h1 | h1
   ·exact h1
   ·have := Nat.mul_pos h1 hs; simp at *; omega
  obtain rfl : l = [] := List.eq_nil_of_length_eq_zero hl
  exact ⟨none, 0, rfl, Nat.le_refl _, Rows.nil _ _ _ _⟩
 ·exact ⟨_, _, rfl, hcp, Re hc (Reads.of_own h')⟩
theorem Rows.setCell (h : Rows w A sz cells l) {p : Addr} (hp : ∀ ad, A = some ad → ad.block ≠ p.block) (u : Value) : Rows (w.setCell p u) A sz cells l := by
 intro k x hk
 obtain ⟨ad, rfl, hb, h0⟩ := h k x hk
 refine ⟨ad, rfl, by simpa using hb, fun j v hv => ?_⟩
 rw [World.cell?_setCell_other w p (ad.add (k * sz + j)) u (fun e => hp ad rfl (by rw [e, Dw]))]
 exact h0 j v hv
theorem flat_one (h1 : ∀ x, ∀ u ∈ cells x, u.oneCell' = true) (l : List α) : ∀ u ∈ l.flatMap cells, u.oneCell' = true := by
 intro u hu
 obtain ⟨x, _, hx⟩ := List.mem_flatMap.1 hu
 exact h1 x u hx
end
end Go.Proofs.YteiaiilfekojfaaGreat
end
section
set_option linter.unusedVariables false
set_option linter.unusedSimpArgs false
namespace Go.Proofs.YteiaiilfekojfaaGreat.Sx
open Go.RowKit DrawInv

theorem add_add (a : Addr) (n m : Nat) : (a.add n).add m = a.add (n + m) := by
 unfold Addr.add
 by_cases h : n = 0 <;> by_cases h' : m = 0 <;> simp [h, h', Nat.add_assoc]
def RowAt (w : World) (a : Addr) (cs : List Value) : Prop := ∀ j v, cs[j]? = some v → w.cell? (a.add j) = some v
theorem _root_.Go.Proofs.YteiaiilfekojfaaGreat.Rows.row {α : Type} {w : World} {A : Option Addr} {sz : Nat} {cells : α → List Value} {l : List α} (h : Rows w A sz cells l) {k : Nat} {x : α} (hk : l[k]? = some x) :
  ∃ ad, A = some ad ∧ ad.block < w.heap.size ∧ RowAt w (ad.add (k * sz)) (cells x) := by
 obtain ⟨ad, e, hl, h0⟩ := h k x hk
 exact ⟨ad, e, hl, fun j v hj => by rw [add_add]; exact h0 j v hj⟩
theorem _root_.Go.Proofs.YteiaiilfekojfaaGreat.Rows.rowA {α : Type} {w : World} {ad : Addr} {sz : Nat} {cells : α → List Value} {l : List α} (h : Rows w (some ad) sz cells l) {k : Nat} {x : α} (hk : l[k]? = some x) : RowAt w (ad.add (k * sz)) (cells x) := by
 obtain ⟨ad', e, _, h0⟩ := h.row hk
 cases e
 exact h0
theorem _root_.Go.Proofs.YteiaiilfekojfaaGreat.Rows.outs {α : Type} {w w' : World} {A : Option Addr} {sz : Nat} {cells : α → List Value} {l : List α} {G : List Nat} (h : Rows w A sz cells l) (ho : Outs G w w') (hne : l ≠ [] → ∀ ad, A = some ad → ad.block ∉ G) : Rows w' A sz cells l := by
 intro k x hk
 obtain ⟨ad, e, hl, h0⟩ := h k x hk
 refine ⟨ad, e, Nat.lt_of_lt_of_le hl ho.size, fun j v hv => ?_⟩
 rw [ho.cell (by rw [Dw]; exact hl) (by rw [Dw]; exact hne (by rintro rfl; cases hk) ad e)]
 exact h0 j v hv
theorem _root_.Go.Proofs.YteiaiilfekojfaaGreat.Rows.lt {α : Type} {w : World} {A : Option Addr} {sz : Nat} {cells : α → List Value} {l : List α} (h : Rows w A sz cells l) (hne : l ≠ []) : ∀ ad, A = some ad → ad.block < w.heap.size := by
 intro ad e
 cases l with
 | nil => exact absurd rfl hne
 | cons x l =>
  obtain ⟨ad', e', hl, _⟩ := h 0 x rfl
  rw [e] at e'
  cases e'
  exact hl
section
variable {P : Program} {ρ : Operand → Value} {o : Oper} {w : World} {vs : Vs}
theorem C7 {t : TypeId} {p : Operand} {a : Addr} {cs : List Value} {d : TypeDesc} (E : Env vs ρ) (hc : RowAt w a cs) (ho : o.op = .load t p) (hp : opv vs p = some (.pointer (some a))) (hu : P.underlying t = some d) (hd : d.isRow = true) (hz : (P.info? t).map (·.size) = some cs.length) : (execOp ρ o).run P w = .ok (.value (.agg cs.toArray)) w := by
 refine JZ p ho (E.ev hp) ?_
 have hl : (loadCells a cs.length).run P w = .ok cs.toArray w := run_loadCells_list (P := P) w a cs hc
 cases hq : P.info? t with
 | none => simp [hq] at hz
 | some i =>
  have hs : i.size = cs.length := by simpa [hq] using hz
  have hagg : (isAgg t).run P w = .ok true w := by
   unfold isAgg
   rw [Sem.run_bind, run_underlying hu w]
   cases d <;> simp_all
  simp [Instr.loadAt, Instr.sureAddr, loadVar, Sem.run_bind, hagg, sizeOf, typeInfo, hq, hs, hl]
theorem H3 {t : TypeId} {p : Operand} {a : Addr} {cs : List Value} {v : Value} {d : TypeDesc} (E : Env vs ρ) (hc : RowAt w a cs) (j : Nat) (hj : cs[j]? = some v) (ho : o.op = .load t p) (hp : opv vs p = some (.pointer (some (a.add j)))) (hu : P.underlying t = some d) (hd : d.isRow = false) : (execOp ρ o).run P w = .ok (.value v) w :=
 Ql E (hc j v hj) ho hp hu hd
theorem FU {s f : Nat} {x : Operand} {a : Addr} (E : Env vs ρ) (ho : o.op = .fieldAddr s x f) (hf : fieldAt P s f 0) (hx : opv vs x = some (.pointer (some a))) : (execOp ρ o).run P w = .ok (.value (.pointer (some a))) w := by
 rw [Fb E ho hf hx]
 unfold Addr.add
 rw [if_pos rfl]
theorem RowAt.take {w : World} {a : Addr} {cs : List Value} (h : RowAt w a cs) (n : Nat) : RowAt w a (cs.take n) := fun j v hj => h j v (by
 rw [List.getElem?_take] at hj
 split at hj
 ·exact hj
 ·cases hj)
theorem RowAt.mid {w : World} {a : Addr} {cs part : List Value} (h : RowAt w a cs) (o n : Nat) (hp : (cs.drop o).take n = part) : RowAt w (a.add o) part := fun j v hj => by
 rw [add_add]
 refine h (o + j) v ?_
 rw [← hp, List.getElem?_take] at hj
 split at hj
 ·rw [List.getElem?_drop] at hj; exact hj
 ·cases hj
theorem Em {t : TypeId} {p : Operand} {a : Addr} {cs : List Value} {v : Value} {d : TypeDesc} (E : Env vs ρ) (hc : RowAt w a cs) (hj : cs[0]? = some v) (ho : o.op = .load t p) (hp : opv vs p = some (.pointer (some a))) (hu : P.underlying t = some d) (hd : d.isRow = false) : (execOp ρ o).run P w = .ok (.value v) w :=
 Ql E (by have := hc 0 v hj; unfold Addr.add at this; rw [if_pos rfl] at this; exact this) ho hp hu hd
theorem Oz {t e m g b j : Nat} {x y : Operand} {n c i : Nat} {k : IntKind} (E : Env vs ρ) (ho : o.op = .indexAddr t x y) (ht : P.underlying t = some (.slice e)) (hz : (P.info? e).map (·.size) = some m) (hx : opv vs x = some (.slice (some ⟨g, b, none⟩) n c)) (hy : opv vs y = some (.int k (i : Int))) (hi : i < n) (hj : b + i * m = j) : (execOp ρ o).run P w = .ok (.value (.pointer (some ⟨g, j, none⟩))) w := by
 rw [BA E ho ht hz hx hy hi, Gj, hj]
theorem Dz {T U : TypeId} {x y : Operand} {a b : List UInt8} (E : Env vs ρ) (ho : o.op = .binOp .add T x y U) (hx : opv vs x = some (.string ⟨a.toArray⟩)) (hy : opv vs y = some (.string ⟨b.toArray⟩)) (hl : a.length + b.length ≤ 9223372036854775807) : (execOp ρ o).run P w = .ok (.value (.string ⟨(a ++ b).toArray⟩)) w := by
 unfold execOp; rw [ho]
 have h1 : ¬ 9223372036854775807 < (a.length : Int) + (b.length : Int) := by omega
 have h2 : (⟨a.toArray⟩ : ByteArray) ++ ⟨b.toArray⟩ = ⟨(a ++ b).toArray⟩ := by
  apply ByteArray.ext; simp [ByteArray.data_append]
 simp [E.ev hx, E.ev hy, eqGuard, binOp, Op.stringOp, h2, ByteArray.size, h1]
theorem SY {T U : TypeId} {x y : Operand} {A : Option Addr} {n c : Nat} {e : TypeId} {t : Bool} (E : Env vs ρ) (ho : o.op = .binOp .eql T x y U) (hT : P.underlying T = some (.slice e)) (hg : P.eqGuardType P.depth T = false) (hx : opv vs x = some (.slice A n c)) (hy : opv vs y = some (.slice none 0 0)) (ht : A.isNone = t) : (execOp ρ o).run P w = .ok (.value (.bool t)) w := by
 subst ht
 unfold execOp; rw [ho]
 simp only [E.ev hx, E.ev hy, Sem.run_bind]
 have h1 : (eqGuard .eql T x y (.slice A n c) (.slice none 0 0)).run P w = .ok () w := by
  simp [eqGuard, hg]
 rw [h1]
 simp only [Result.andThen_ok, Lib.run_eql_slice_nil w T e A n c 0 0 hT, Sem.run_bind, Sem.run_pure]
end
theorem J5 {P : Program} {ρ : Operand → Value} {o : Oper} {w : World} {t e : TypeId} (ho : o.op = .buildSlice t 0 #[]) (hb : ∀ W : World, (Instr.buildSlice t 0 #[]).run P W = .ok (.slice (some ⟨W.heap.size, 0, none⟩) 0 0) (W.alloc (.cells #[] e))) :
  (execOp ρ o).run P w = .ok (.value (.slice (some ⟨w.heap.size, 0, none⟩) 0 0)) (w.alloc (.cells ([] : List Value).toArray e)) := by
 unfold execOp; rw [ho]
 simp only [Array.map_empty, Sem.run_bind, hb w, Result.andThen_ok, Sem.run_pure]
theorem PL {w : World} {base g e sz : Nat} (h : (cell g e []).φ w) (hg : base ≤ g) : w.ownsRow base e sz (.slice (some ⟨g, 0, none⟩) 0 0) 0 [] :=
 ⟨by simp, .inr ⟨g, 0, #[], rfl, hg, h, Nat.le_refl _, by decide, by simp, by simp⟩⟩
theorem flat_one {α : Type} {f : α → List Value} (h : ∀ x, ∀ u ∈ f x, u.oneCell' = true) (l : List α) : ∀ u ∈ l.flatMap f, u.oneCell' = true := fun u hu => by
 obtain ⟨x, _, hx⟩ := List.mem_flatMap.1 hu
 exact h x u hx
theorem Ob {α : Type} {w : World} {A : Option Addr} {sz : Nat} {cells : α → List Value} {l : List α} (h : Rows w A sz cells l) (hA : A.isNone = true) : l = [] := by
 cases l with
 | nil => rfl
 | cons x l =>
  obtain ⟨ad, e, _⟩ := h 0 x rfl
  rw [e] at hA
  cases hA
def BU (ex : List Nat) (base : Nat) (e : TypeId) (size : Nat) (v : Value) (n : Nat) (xs : List Value) : Ft := ⟨ex ++ v.ownBlock.toList, fun w => w.ownsRow base e size v n xs⟩
def OwnIn (w0 : World) (ex : List Nat) (v : Value) : Prop := ∀ g ∈ v.ownBlock.toList, g ∈ ex ∨ w0.heap.size ≤ g
theorem BF (ex : List Nat) (base : Nat) (e : TypeId) (size : Nat) (v : Value) (n : Nat) (xs : List Value) : (BU ex base e size v n xs).Loc := by
 intro w w' h hown
 refine ⟨hown.1, hown.2.imp id fun ⟨g, cap, cur, ev, r1, r2, r3⟩ => ⟨g, cap, cur, ev, r1, ?_, r3⟩⟩
 subst ev
 rw [h g (by simp [BU, Value.ownBlock])]
 exact r2
theorem BS {w : World} {base : Nat} {e : TypeId} {size : Nat} {v : Value} {n : Nat} {xs : List Value} (h : w.ownsRow base e size v n xs) : ∀ g ∈ v.ownBlock.toList, base ≤ g ∧ g < w.heap.size := by
 intro g hg
 exact h.lt g (by simpa using hg)
theorem DI {w : World} {base : Nat} {e : TypeId} {size : Nat} {v : Value} {n n' : Nat} {xs xs' : List Value} (h : w.ownsRow base e size v n xs) (hn : n = n') (hx : xs = xs') : w.ownsRow base e size v n' xs' := by subst hn hx; exact h
theorem Bf {w : World} {base : Nat} {e : TypeId} {size : Nat} {v : Value} {n : Nat} {xs : List Value} (h : w.ownsRow base e size v n xs) : ∃ A c, v = .slice A n c := by
 rcases h.2 with ⟨rfl, rfl⟩ | ⟨g, cap, cur, rfl, _⟩
 ·exact ⟨none, 0, rfl⟩
 ·exact ⟨_, _, rfl⟩
theorem CY {w : World} {b b' : Nat} {e : TypeId} {size n : Nat} {v : Value} {xs : List Value} (h : w.ownsRow b e size v n xs) (hb : b' ≤ b) : w.ownsRow b' e size v n xs :=
 ⟨h.1, h.2.imp id (fun ⟨g, cap, cur, e, hg, r⟩ => ⟨g, cap, cur, e, Nat.le_trans hb hg, r⟩)⟩
theorem OwnIn.fresh {w0 : World} {v : Value} (h : OwnIn w0 [] v) {base : Nat} {e : TypeId} {size n : Nat} {xs : List Value} : ∀ g ∈ (BU [] base e size v n xs).fp, w0.heap.size ≤ g := fun g hg => (h g (by simpa [BU] using hg)).resolve_left (by simp)
theorem OwnIn.in_ {w0 : World} {ex : List Nat} {v : Value} (h : OwnIn w0 ex v) {base : Nat} {e : TypeId} {size n : Nat} {xs : List Value} : ∀ g ∈ (BU ex base e size v n xs).fp, g ∈ ex ∨ w0.heap.size ≤ g := fun g hg => by
 rcases List.mem_append.1 hg with h' | h'
 ·exact .inl h'
 ·exact h g h'
section
variable {P : Program} {ops : Array Oper} {Q Q' : Exit → Act → World → Prop} {n : Nat} {vs : Vs} {w0 : World} {L : List Ft} {o : Oper} {rest : List Oper} {S : World → Prop} {fuel : Nat} {listed : Array Bool}
theorem EW {f : Nat} {args : Array Value} {e : TypeId} {sz m : Nat} {xs : List Value} (hc : ∀ w, Hp w0 L w → Calls P f args w fun E w' => ∃ v', E = .returned v' ∧ w'.ownsRow w.heap.size e sz v' m xs ∧ Below w.heap.size w w') :
  ∀ w, Hp w0 L w → Calls P f args w fun E w' => ∃ s : Value, E = .returned s ∧ OwnIn w0 [] s ∧ Hp w0 (BU [] w0.heap.size e sz s m xs :: L) w' := fun w H => (hc w H).mono fun E w' ⟨v', he, hown, hb⟩ =>
 ⟨v', he, fun g hg => .inr (Nat.le_trans H.os.size (BS hown g hg).1), H.add hb _ (BF _ _ _ _ _ _ _) (fun g hg => ⟨(BS hown g (by simpa [BU] using hg)).2, (BS hown g (by simpa [BU] using hg)).1⟩) (CY hown H.os.size)⟩
theorem DR {f : Nat} {args : Array Value} {v : Value} {i : Nat} {x : Ft} (x' : Ft) (hi : nth L i = some x) (hl : x'.Loc) (hfp : x'.fp = x.fp) (hc : ∀ w, Hp w0 L w → Calls P f args w fun E w' => E = .returned v ∧ x'.φ w' ∧ Outs x.fp w w') :
  ∀ w, Hp w0 L w → Calls P f args w fun E w' => ∃ s : Unit, E = .returned v ∧ True ∧ Hp w0 (putF L i x') w' := fun w H => (hc w H).mono fun E w' ⟨he, hx, ho⟩ =>
 ⟨(), he, trivial, H.chg hi x' ho hl (fun g hg => ⟨Nat.lt_of_lt_of_le ((H.ok x (EU hi)).2.1 g (hfp ▸ hg)) ho.size, .inl (hfp ▸ hg)⟩) (fun g hg => .inl (hfp ▸ hg)) hx⟩
theorem Ey {g : Nat} {e0 : Ending} {v : Value} {w w' : World} {t : TypeId} {cs : List Value} (h : e0 = .returned v ∧ Blk w' g t cs.toArray ∧ w.grownBy w' (some g)) : e0 = .returned v ∧ (cell g t cs).φ w' ∧ Outs [g] w w' :=
 ⟨h.1, h.2.1, Outs.of_grown h.2.2 (List.mem_singleton.2 rfl)⟩
theorem OB {o : Oper} {a : Act} {w : World} {K : Act → World → Prop} {i : Nat} {s x : Operand} {t base : Nat} {e : TypeId} {size by_ k m c : Nat} {z v : Value} {xs news : List Value} {A : Option Addr} {ex : List Nat} (K0 : Kn n vs a) (H : Hp w0 L w)
  (ho : o.op = .call { callee := .builtin .append, args := #[s, x], argTypes := #[t, t] }) (ht : P.underlying t = some (.slice e)) (hi : (P.info? e).map (fun i => (i.zero, i.size, i.bytes)) = some (some z, size, by_)) (hzs : z.cells.size = size) (hsz : Nat.blt 0 size = true)
  (hs : opv vs s = some v) (hL : nth L i = some (BU ex base e size v k xs)) (hv : OwnIn w0 ex v) (hx : opv vs x = some (.slice A m c)) (hr : ∀ w, Hp w0 L w → ∃ B, Reads w B size A m news) (h1 : ∀ u ∈ news, u.oneCell' = true)
  (h63 : k + m ≤ maxLen) (hby : (k + m) * by_ ≤ 140737488355328) (hbase : base ≤ w0.heap.size)
  (h : ∀ A' c' w', OwnIn w0 ex (.slice A' (k + m) c') → Hp w0 (putF L i (BU ex base e size (.slice A' (k + m) c') (k + m) (xs ++ news))) w' → K (a.put o.dst (.slice A' (k + m) c')) w') : o.wp P a w K Q := by
 cases hq : P.info? e with
 | none => rw [hq] at hi; cases hi
 | some ti =>
  rw [hq] at hi
  have hi := Option.some.inj hi
  injection hi with hz hi
  injection hi with h2 h3
  obtain ⟨B, hr⟩ := hr w H
  have hown : w.ownsRow base e size v k xs := H.get hL
  refine I1 w s x t ho base e ti z size by_ ht hq hz h2 h3 hzs (by simpa using hsz) v k xs (K0.env.ev hs) hown B A m c news (K0.env.ev hx) hr h1 h63 hby (Nat.le_trans hbase H.os.size) ?_
  intro v' w' hown' hg hob
  have hnew : ∀ g ∈ v'.ownBlock.toList, g ∈ v.ownBlock.toList ∨ w.heap.size ≤ g := fun g hgm => by
   rcases hob with e | e
   ·left; rw [← e]; exact hgm
   ·right; rw [e] at hgm; simp at hgm; omega
  have hv' : OwnIn w0 ex v' := fun g hgm => (hnew g hgm).elim (hv g) fun h => .inr (Nat.le_trans H.os.size h)
  have hos : Outs (ex ++ v.ownBlock.toList) w w' := by
   cases hb : v.ownBlock with
   | none => rw [hb] at hg; exact ⟨hg.os, hg.tape, hg.output, hg.size, fun k hk _ => hg.block k hk (fun e => by cases e)⟩
   | some b => rw [hb] at hg; exact (Outs.of_grown hg (List.mem_singleton.2 rfl)).mono fun g hgm _ => by simp at hgm ⊢; exact .inr hgm
  obtain ⟨A', c', rfl⟩ := Bf hown'
  refine h A' c' w' hv' (H.chg hL _ hos (BF _ _ _ _ _ _ _) (fun g hgm => ?_) (fun g hgm => ?_) hown')
  ·rcases List.mem_append.1 hgm with h' | h'
   ·exact ⟨Nat.lt_of_lt_of_le ((H.ok _ (EU hL)).2.1 g (List.mem_append.2 (.inl h'))) hos.size, .inl (List.mem_append.2 (.inl h'))⟩
   ·exact ⟨(BS hown' g h').2, (hnew g h').imp (fun h => List.mem_append.2 (.inr h)) id⟩
  ·rcases List.mem_append.1 hgm with h' | h'
   ·exact .inl (List.mem_append.2 (.inl h'))
   ·exact (hv g h').imp (fun h => List.mem_append.2 (.inl h)) id
theorem Ik {d i : Nat} {s x : Operand} {t base : Nat} {e : TypeId} {size by_ k m c : Nat} {z v : Value} {xs news : List Value} {A : Option Addr} {ex : List Nat} (hon : GOn ops vs o.guard) (hd : o.dst = some d) (hdn : Nat.blt d n = true)
  (ho : o.op = .call { callee := .builtin .append, args := #[s, x], argTypes := #[t, t] }) (ht : P.underlying t = some (.slice e)) (hi : (P.info? e).map (fun i => (i.zero, i.size, i.bytes)) = some (some z, size, by_)) (hzs : z.cells.size = size) (hsz : Nat.blt 0 size = true)
  (hs : opv vs s = some v) (hL : nth L i = some (BU ex base e size v k xs)) (hv : OwnIn w0 ex v) (hx : opv vs x = some (.slice A m c)) (hr : ∀ w, Hp w0 L w → ∃ B, Reads w B size A m news) (h1 : ∀ u ∈ news, u.oneCell' = true)
  (h63 : k + m ≤ maxLen) (hby : (k + m) * by_ ≤ 140737488355328) (hbase : base ≤ w0.heap.size)
  (h : ∀ A' c', OwnIn w0 ex (.slice A' (k + m) c') → SxL P ops Q rest n ((d, .slice A' (k + m) c') :: vs) w0 (putF L i (BU ex base e size (.slice A' (k + m) c') (k + m) (xs ++ news)))) : SxL P ops Q (o :: rest) n vs w0 L := fun a w K H => by
 refine Hn (hon.on K.env) ?_
 refine OB K H ho ht hi hzs hsz hs hL hv hx hr h1 h63 hby hbase fun A' c' w' hv' H' => ?_
 rw [hd]
 exact h A' c' hv' _ _ (K.put hdn _) H'
theorem BZ {i' d i : Nat} {o : Oper} {s x : Operand} {t base : Nat} {e : TypeId} {size by_ k m c : Nat} {z v : Value} {xs news : List Value} {A : Option Addr} {ex : List Nat} (hi' : ops[i']? = some o) (hon : GOn ops vs o.guard) (hd : o.dst = some d) (hdn : Nat.blt d n = true)
  (ho : o.op = .call { callee := .builtin .append, args := #[s, x], argTypes := #[t, t] }) (ht : P.underlying t = some (.slice e)) (hi : (P.info? e).map (fun i => (i.zero, i.size, i.bytes)) = some (some z, size, by_)) (hzs : z.cells.size = size) (hsz : Nat.blt 0 size = true)
  (hs : opv vs s = some v) (hL : nth L i = some (BU ex base e size v k xs)) (hv : OwnIn w0 ex v) (hx : opv vs x = some (.slice A m c)) (hr : ∀ w, Hp w0 L w → ∃ B, Reads w B size A m news) (h1 : ∀ u ∈ news, u.oneCell' = true)
  (h63 : k + m ≤ maxLen) (hby : (k + m) * by_ ≤ 140737488355328) (hbase : base ≤ w0.heap.size)
  (hS : ∀ A' c' w, OwnIn w0 ex (.slice A' (k + m) c') → Hp w0 (putF L i (BU ex base e size (.slice A' (k + m) c') (k + m) (xs ++ news))) w → S w)
  (h : ∀ A' c', OwnIn w0 ex (.slice A' (k + m) c') → SxA P ops Q S fuel (listed.setIfInBounds i' true) n ((d, .slice A' (k + m) c') :: vs) w0 (putF L i (BU ex base e size (.slice A' (k + m) c') (k + m) (xs ++ news)))) : SxO P ops Q S fuel listed i' n vs w0 L := fun a w K H _ => by
 refine M7 hi' (hon.on K.env) ?_
 refine OB K H ho ht hi hzs hsz hs hL hv hx hr h1 h63 hby hbase fun A' c' w' hv' H' => ?_
 rw [hd]
 exact ⟨hS A' c' w' hv' H', h A' c' hv' _ _ (K.put hdn _) H' (hS A' c' w' hv' H')⟩
theorem Lx {f : Nat} {args : Array Value} {i base e sz m m' : Nat} {v : Value} {xs xs' : List Value} {ex : List Nat} (hL : nth L i = some (BU ex base e sz v m xs)) (hv : OwnIn w0 ex v)
  (hc : ∀ w, Hp w0 L w → Calls P f args w fun E w' => ∃ v', E = .returned v' ∧ w'.ownsRow base e sz v' m' xs' ∧ OwnIn w v.ownBlock.toList v' ∧ Outs v.ownBlock.toList w w') :
  ∀ w, Hp w0 L w → Calls P f args w fun E w' => ∃ s : Value, E = .returned s ∧ OwnIn w0 ex s ∧ Hp w0 (putF L i (BU ex base e sz s m' xs')) w' := fun w H => (hc w H).mono fun E w' ⟨v', he, hown, hin, hos⟩ => by
 have hv' : OwnIn w0 ex v' := fun g hg => (hin g hg).elim (hv g) fun h => .inr (Nat.le_trans H.os.size h)
 have hos2 : Outs (ex ++ v.ownBlock.toList) w w' := hos.mono fun g hg _ => List.mem_append.2 (.inr hg)
 refine ⟨v', he, hv', H.chg hL _ hos2 (BF _ _ _ _ _ _ _) (fun g hgm => ?_) (fun g hgm => ?_) hown⟩
 ·rcases List.mem_append.1 hgm with h' | h'
  ·exact ⟨Nat.lt_of_lt_of_le ((H.ok _ (EU hL)).2.1 g (List.mem_append.2 (.inl h'))) hos.size, .inl (List.mem_append.2 (.inl h'))⟩
  ·exact ⟨(BS hown g h').2, (hin g h').imp (fun h => List.mem_append.2 (.inr h)) id⟩
 ·rcases List.mem_append.1 hgm with h' | h'
  ·exact .inl (List.mem_append.2 (.inl h'))
  ·exact (hv g h').imp (fun h => List.mem_append.2 (.inl h)) id
theorem Hp.toOuts {w : World} (H : Hp w0 L w) (G : List Nat) (hf : allF L fun f => ∀ g ∈ f.fp, g ∈ G ∨ w0.heap.size ≤ g) : Outs G w0 w := H.os.mono fun g hm hlt => by
 obtain ⟨f, hfm, hg⟩ := List.mem_flatMap.1 hm
 rcases hf.mem f hfm g hg with h | h
 ·exact h
 ·omega
theorem Hp.row {w : World} {base e sz m : Nat} {v : Value} {xs : List Value} (hown : w.ownsRow base e sz v m xs) : Hp w [BU v.ownBlock.toList base e sz v m xs] w :=
 (Hp.start w).know _ (BF _ _ _ _ _ _ _) (fun g hg => ⟨(BS hown g (by simpa [BU] using hg)).2, fun q hq => by cases hq⟩) hown
theorem OwnIn.refl (w : World) (v : Value) : OwnIn w v.ownBlock.toList v := fun g hg => .inl hg
theorem OwnIn.mono {w : World} {ex ex' : List Nat} {v : Value} (h : OwnIn w ex v) (hs : ∀ g ∈ ex, g ∈ ex') : OwnIn w ex' v := fun g hg => (h g hg).imp (hs g) id
theorem OwnIn.wid {w : World} {ex : List Nat} {v : Value} (h : OwnIn w [] v) : OwnIn w ex v := h.mono fun g hg => by cases hg
theorem D4 {l : List Value} (h : l.all (·.oneCell') = true) : ∀ u ∈ l, u.oneCell' = true := List.all_eq_true.1 h
theorem Hp.one {w : World} {g : Nat} {t : TypeId} {cs : List Value} (h : Blk w g t cs.toArray) : Hp w [cell g t cs] w :=
 (Hp.start w).know _ (BR _ _ _) (fun b hb => ⟨by rw [List.mem_singleton.1 hb]; exact h.lt, fun q hq => by cases hq⟩) h
theorem Hp.duo {w : World} {g g' : Nat} {t t' : TypeId} {cs cs' : List Value} (h : Blk w g t cs.toArray) (h' : Blk w g' t' cs'.toArray) (hne : g ≠ g') : Hp w [cell g t cs, cell g' t' cs'] w :=
 (Hp.one h').know _ (BR _ _ _) (fun b hb => ⟨by rw [List.mem_singleton.1 hb]; exact h.lt, fun q hq hbq => by
  rw [List.mem_singleton.1 hb, List.mem_singleton.1 hq] at hbq
  exact hne (List.mem_singleton.1 hbq)⟩) h
theorem CS {w : World} {L : List Ft} {i g t sz m : Nat} {cs : List Value} (H : Hp w0 L w) (hi : nth L i = some (cell g t cs)) (hz : cs.length = m * sz) : ∃ B, Reads w B sz (some ⟨g, 0, none⟩) m cs := by
 have hb : Blk w g t cs.toArray := H.get hi
 refine ⟨w.heap.size, by rw [hz], fun _ => ⟨_, rfl, hb.lt, fun j u hu => ?_⟩⟩
 have := hb.cell j
 rw [Addr.add_mid]
 simp at this ⊢
 rw [this]
 simpa using hu
end
end Go.Proofs.YteiaiilfekojfaaGreat.Sx
end
section
namespace Go.Proofs.YteiaiilfekojfaaGreat.Wire

def beB : Nat → Nat → List UInt8
 | 0, _ => []
 | k + 1, n => UInt8.ofNat (n / 256 ^ k) :: beB k n
def valB : List UInt8 → Nat
 | [] => 0
 | b :: l => b.toNat * 256 ^ l.length + valB l
def Di (n : Nat) : Nat := (Lib.bitLen n + 7) / 8
def BI (n : Nat) : List UInt8 := if n < 248 then [UInt8.ofNat n] else UInt8.ofNat (247 + Di n) :: beB (Di n) n
def CM (s : List UInt8) : List UInt8 := BI s.length ++ s

theorem Gm (k n : Nat) : (beB k n).length = k := by
 induction k with
 | zero => rfl
 | succ k ih => simp [beB, ih]
theorem OJ (l : List UInt8) : valB l < 256 ^ l.length := by
 induction l with
 | nil => simp [valB]
 | cons b l ih =>
  have hb := b.toNat_lt
  rw [valB, List.length_cons, Nat.pow_succ]
  have : b.toNat * 256 ^ l.length + 256 ^ l.length ≤ 256 ^ l.length * 256 := by
   rw [← Nat.succ_mul, Nat.mul_comm]
   exact Nat.mul_le_mul_left _ (by omega)
  omega
theorem Tj (k n : Nat) : beB k (n % 256 ^ k) = beB k n := by
 have h : ∀ j, j ≤ k → beB j (n % 256 ^ k) = beB j n := by
  intro j
  induction j with
  | zero => intro _; rfl
  | succ j ih =>
   intro hj
   rw [beB, beB, ih (by omega)]
   congr 1
   have e : 256 ^ k = 256 ^ j * 256 ^ (k - j) := by rw [← Nat.pow_add]; congr 1; omega
   have e2 : 256 ^ (k - j) = 256 * 256 ^ (k - j - 1) := by rw [← Nat.pow_succ']; congr 1; omega
   rw [e, Nat.mod_mul_right_div_self]
   apply UInt8.toNat_inj.1
   rw [UInt8.toNat_ofNat', UInt8.toNat_ofNat', e2, Nat.mod_mul_right_mod]
 exact h k (Nat.le_refl k)
theorem XV (k n : Nat) (h : n < 256 ^ k) : valB (beB k n) = n := by
 induction k generalizing n with
 | zero => simp [beB, valB]; simp at h; omega
 | succ k ih =>
  rw [beB, valB, Gm, ← Tj k n, ih _ (Nat.mod_lt _ (Nat.pow_pos (by omega))), UInt8.toNat_ofNat']
  have hd : n / 256 ^ k < 256 := by
   rw [Nat.pow_succ] at h
   exact (Nat.div_lt_iff_lt_mul (Nat.pow_pos (by omega))).2 (by rw [Nat.mul_comm]; exact h)
  rw [Nat.mod_eq_of_lt (by simpa using hd), Nat.mul_comm]
  exact Nat.div_add_mod n (256 ^ k)
theorem Y0 (l : List UInt8) : beB l.length (valB l) = l := by
 induction l with
 | nil => rfl
 | cons b l ih =>
  rw [List.length_cons, beB, valB]
  have hv := OJ l
  have hp : 0 < 256 ^ l.length := Nat.pow_pos (by omega)
  have hd : (b.toNat * 256 ^ l.length + valB l) / 256 ^ l.length = b.toNat := by
   rw [Nat.add_comm, Nat.add_mul_div_right _ _ hp, Nat.div_eq_of_lt hv, Nat.zero_add]
  rw [hd, ← Tj, Nat.add_comm, Nat.add_mul_mod_self_right, Nat.mod_eq_of_lt hv, ih]
  simp

theorem Hk (n : Nat) (h0 : n ≠ 0) (h : n < 18446744073709551616) : 1 ≤ Di n ∧ Di n ≤ 8 ∧ 256 ^ (Di n - 1) ≤ n ∧ n < 256 ^ Di n := by
 obtain ⟨h1, h2, h3⟩ := Lib.bitLenAux_bounds 64 n (by simpa using h) h0
 have hl := Lib.bitLen_le n 64 (by omega) (by simpa using h)
 have e : Lib.bitLenAux 64 n = Lib.bitLen n := rfl
 rw [e] at h1 h2 h3
 unfold Di
 generalize Lib.bitLen n = b at *
 have hp : ∀ m, (256 : Nat) ^ m = 2 ^ (8 * m) := fun m => by rw [show (256 : Nat) = 2 ^ 8 from rfl, ← Nat.pow_mul]
 refine ⟨by omega, by omega, ?_, ?_⟩
 ·rw [hp]; exact Nat.le_trans (Nat.pow_le_pow_right (by omega) (by omega)) h2
 ·rw [hp]; exact Nat.lt_of_lt_of_le h3 (Nat.pow_le_pow_right (by omega) (by omega))
theorem OG (n k : Nat) (h0 : n ≠ 0) (h : n < 18446744073709551616) (hk : 1 ≤ k) (h1 : 256 ^ (k - 1) ≤ n) (h2 : n < 256 ^ k) : Di n = k := by
 obtain ⟨g1, _, g3, g4⟩ := Hk n h0 h
 rcases Nat.lt_trichotomy (Di n) k with hl | hl | hl
 ·have : 256 ^ Di n ≤ 256 ^ (k - 1) := Nat.pow_le_pow_right (by omega) (by omega)
  omega
 ·exact hl
 ·have : 256 ^ k ≤ 256 ^ (Di n - 1) := Nat.pow_le_pow_right (by omega) (by omega)
  omega
theorem Va (n : Nat) (h : n < 18446744073709551616) : Di n ≤ 8 := by
 by_cases h0 : n = 0
 ·subst h0; decide
 ·exact (Hk n h0 h).2.1
theorem B0 (n : Nat) (h : n < 18446744073709551616) : (BI n).length ≤ 9 ∧ 1 ≤ (BI n).length := by
 unfold BI
 split
 ·simp
 ·rw [List.length_cons, Gm]; have := Va n h; omega

structure Rd where
 err : Nat
 rest : List UInt8

def Rd.fail (r : Rd) (e : Nat) : Rd := if r.err = 0 then { r with err := e } else r
def Rd.take (r : Rd) (n : Nat) : List UInt8 × Bool × Rd :=
 if r.err ≠ 0 then ([], false, r)
 else if r.rest.length < n then ([], false, r.fail 3)
 else (r.rest.take n, true, { r with rest := r.rest.drop n })
def Rd.byte (r : Rd) : Nat × Rd :=
 match r.take 1 with
 | (s, true, r') => ((s.headD 0).toNat, r')
 | (_, false, r') => (0, r')
def Rd.num (r : Rd) : Nat × Rd :=
 match r.byte with
 | (c, r1) =>
  if c < 248 then (c, r1)
  else match r1.take (c - 247) with
   | (_, false, r2) => (0, r2)
   | (s, true, r2) => if valB s < 248 ∨ Di (valB s) ≠ c - 247 then (0, r2.fail 4) else (valB s, r2)
def Rd.below (r : Rd) (n : Nat) : Nat × Rd :=
 match r.num with
 | (v, r1) => if r1.err ≠ 0 then (0, r1) else if n ≤ v then (0, r1.fail 4) else (v, r1)
def Rd.str (r : Rd) (most : Int) : List UInt8 × Rd :=
 match r.below ((max most 0).toNat + 1) with
 | (n, r1) => ((r1.take n).1, (r1.take n).2.2)
def Rd.bad (r : Rd) : Rd := r.fail 4
def Rd.left (r : Rd) : Nat := if r.err ≠ 0 then 0 else r.rest.length
def Rd.end_ (r : Rd) : Rd := if 0 < r.rest.length then r.fail 4 else r

theorem P7 {r r' : Rd} {n : Nat} {s : List UInt8} (h : r.take n = (s, true, r')) : s.length = n := by
 unfold Rd.take at h
 split at h
 ·cases h
 ·split at h
  ·cases h
  ·cases h; rw [List.length_take]; omega
theorem JK {r r' : Rd} {n : Nat} {s : List UInt8} {ok : Bool} (h : r.take n = (s, ok, r')) : r'.rest.length ≤ r.rest.length := by
 unfold Rd.take at h
 split at h
 ·cases h; exact Nat.le_refl _
 ·split at h
  ·cases h; unfold Rd.fail; split <;> exact Nat.le_refl _
  ·cases h; simp
theorem JY (r : Rd) (e : Nat) : (r.fail e).rest = r.rest := by unfold Rd.fail; split <;> rfl
theorem Kt {r r' : Rd} {c : Nat} (h : r.byte = (c, r')) : c < 256 := by
 unfold Rd.byte at h
 split at h
 ·cases h; exact UInt8.toNat_lt _
 ·cases h; omega
theorem H4 {r r' : Rd} {c : Nat} (h : r.byte = (c, r')) : r'.rest.length ≤ r.rest.length := by
 unfold Rd.byte at h
 split at h
 ·rename_i _ _ e; cases h; exact JK e
 ·rename_i _ _ e; cases h; exact JK e
theorem T8 (s : List UInt8) (k : Nat) (b : UInt8) (h : s[k]? = some b) : valB (s.take (k + 1)) = valB (s.take k) * 256 + b.toNat := by
 have gen : ∀ (l : List UInt8) (b : UInt8), valB (l ++ [b]) = valB l * 256 + b.toNat := by
  intro l b
  induction l with
  | nil => simp [valB]
  | cons c l ih =>
   rw [List.cons_append, valB, valB, ih, List.length_append, List.length_singleton, Nat.pow_succ, Nat.add_mul]
   rw [Nat.mul_assoc, Nat.add_assoc]
 rw [List.take_add_one, h]
 exact gen _ _
theorem OH (s : List UInt8) (k : Nat) : valB (s.take k) < 256 ^ k :=
 Nat.lt_of_lt_of_le (OJ _) (Nat.pow_le_pow_right (by omega) (List.length_take_le _ _))
theorem PO {r r' : Rd} {c : Nat} (h : r.num = (c, r')) : r'.rest.length ≤ r.rest.length := by
 unfold Rd.num at h
 obtain ⟨b, r1, e1⟩ : ∃ b r1, r.byte = (b, r1) := ⟨_, _, rfl⟩
 rw [e1] at h
 have g1 := H4 e1
 simp only at h
 split at h
 ·cases h; exact g1
 ·obtain ⟨s, ok, r2, e2⟩ : ∃ s ok r2, r1.take (b - 247) = (s, ok, r2) := ⟨_, _, _, rfl⟩
  rw [e2] at h
  have g2 := JK e2
  cases ok
  ·cases h; omega
  ·simp only at h
   split at h
   ·cases h; rw [JY]; omega
   ·cases h; omega
theorem XZ {r r' : Rd} {c : Nat} (h : r.num = (c, r')) : c < 18446744073709551616 := by
 unfold Rd.num at h
 obtain ⟨b, r1, e1⟩ : ∃ b r1, r.byte = (b, r1) := ⟨_, _, rfl⟩
 rw [e1] at h
 have g1 := Kt e1
 simp only at h
 split at h
 ·cases h; omega
 ·obtain ⟨s, ok, r2, e2⟩ : ∃ s ok r2, r1.take (b - 247) = (s, ok, r2) := ⟨_, _, _, rfl⟩
  rw [e2] at h
  cases ok
  ·cases h; omega
  ·simp only at h
   split at h
   ·cases h; omega
   ·cases h
    have hs := P7 e2
    have := OJ s
    rw [hs] at this
    exact Nat.lt_of_lt_of_le this (Nat.pow_le_pow_right (n := 256) (by omega) (by omega : b - 247 ≤ 8))
theorem Jk {r r' : Rd} {c n : Nat} (h : r.below n = (c, r')) : r'.rest.length ≤ r.rest.length := by
 unfold Rd.below at h
 obtain ⟨b, r1, e1⟩ : ∃ b r1, r.num = (b, r1) := ⟨_, _, rfl⟩
 rw [e1] at h
 have g1 := PO e1
 simp only at h
 split at h
 ·cases h; exact g1
 ·split at h
  ·cases h; rw [JY]; exact g1
  ·cases h; exact g1
end Go.Proofs.YteiaiilfekojfaaGreat.Wire
end
section
namespace Go.Proofs.YteiaiilfekojfaaGreat.Wire
open Go.RowKit

def rdC (r : Rd) : Array Value := #[.int .i64 (r.err : Int), .string ⟨r.rest.toArray⟩]
def RdAt (w : World) (g : Nat) (r : Rd) : Prop := Blk w g 157 (rdC r)
def RdGo (w : World) (g : Nat) (r : Rd) (w' : World) : Prop := RdAt w' g r ∧ w.grownBy w' (some g)

theorem RdAt.c0 {w : World} {g : Nat} {r : Rd} (h : RdAt w g r) : w.cell? ⟨g, 0, none⟩ = some (.int .i64 (r.err : Int)) := Blk.cell h 0
theorem RdAt.c1 {w : World} {g : Nat} {r : Rd} (h : RdAt w g r) : w.cell? ⟨g, 1, none⟩ = some (.string ⟨r.rest.toArray⟩) := Blk.cell h 1
theorem RdAt.f0 {w : World} {g : Nat} {r : Rd} (h : RdAt w g r) : w.frozen? ⟨g, 0, none⟩ = false := Blk.frozen h 0
theorem RdAt.f1 {w : World} {g : Nat} {r : Rd} (h : RdAt w g r) : w.frozen? ⟨g, 1, none⟩ = false := Blk.frozen h 1
theorem RdAt.go {w : World} {g : Nat} {r : Rd} (h : RdAt w g r) : RdGo w g r w := ⟨h, World.grownBy.refl w _⟩
theorem RdAt.set0 {w : World} {g : Nat} {r : Rd} (h : RdAt w g r) (e : Nat) : RdGo w g ⟨e, r.rest⟩ (w.setCell ⟨g, 0, none⟩ (.int .i64 (e : Int))) :=
 ⟨Blk.set_ h 0 _, FR (World.grownBy.refl w _) (.inl rfl) _⟩
theorem RdAt.set1 {w : World} {g : Nat} {r : Rd} (h : RdAt w g r) (l : List UInt8) : RdGo w g ⟨r.err, l⟩ (w.setCell ⟨g, 1, none⟩ (.string ⟨l.toArray⟩)) :=
 ⟨Blk.set_ h 1 _, FR (World.grownBy.refl w _) (.inl rfl) _⟩
theorem GH {a b c : World} {g : Nat} (h : a.grownBy b (some g)) (k : b.grownBy c (some g)) : a.grownBy c (some g) :=
 ⟨k.os.trans h.os, k.tape.trans h.tape, k.output.trans h.output, Nat.le_trans h.size k.size, fun i hi hne => (k.block i (Nat.lt_of_lt_of_le hi h.size) hne).trans (h.block i hi hne)⟩
theorem RdGo.trans {w w1 w2 : World} {g : Nat} {r1 r2 : Rd} (h : RdGo w g r1 w1) (k : RdGo w1 g r2 w2) : RdGo w g r2 w2 := ⟨k.1, GH h.2 k.2⟩

def Qk (r : Rd) : Bool := (r.err : Int) != 0
theorem NB {r : Rd} (h : r.err = 0) : Qk r = false := by unfold Qk; rw [h]; rfl
theorem LV {r : Rd} (h : r.err ≠ 0) : Qk r = true := by unfold Qk; rw [bne_iff_ne]; omega
theorem FG (w : World) (g : Nat) (r : Rd) (h : RdAt w g r) :
  Calls Tryz.prog 165 #[.pointer (some ⟨g, 0, none⟩)] w fun e w' => e = .returned (.bool (Qk r)) ∧ w = w' := by
 have c0 := h.c0
 go_enter Tryz.func165, Tryz.ntmps165
 go_wp2
 go_ret
 exact ⟨rfl, rfl⟩

theorem IK (w : World) (g : Nat) (r : Rd) (e0 : Nat) (h : RdAt w g r) :
  Calls Tryz.prog 97 #[.pointer (some ⟨g, 0, none⟩), .int .i64 (e0 : Int)] w fun e w' => (∃ v, e = .returned v) ∧ RdGo w g (r.fail e0) w' := by
 have c0 := h.c0
 have f0 := h.f0
 by_cases hz : r.err = 0
 ·have hb : ((r.err : Int) == 0) = true := by rw [hz]; rfl
  have e1 : r.fail e0 = ⟨e0, r.rest⟩ := by unfold Rd.fail; rw [if_pos hz]
  rw [e1]
  have H := Lib.hid (h.set0 e0)
  clear e1 hz
  go_enter Tryz.func97, Tryz.ntmps97
  go_wp2
  go_end0
  exact ⟨⟨_, rfl⟩, H.out⟩
 ·have hb : ((r.err : Int) == 0) = false := beq_eq_false_iff_ne.2 (by omega)
  have e1 : r.fail e0 = r := by unfold Rd.fail; rw [if_neg hz]
  rw [e1]
  have H := Lib.hid h.go
  clear e1 hz
  go_enter Tryz.func97, Tryz.ntmps97
  go_wp2
  go_end0
  exact ⟨⟨_, rfl⟩, H.out⟩

theorem KD (l : List UInt8) (w : World) :
  Calls Tryz.prog 57 #[.string ⟨l.toArray⟩] w fun e w' => e = .returned (.pointer (some ⟨w.heap.size, 0, none⟩)) ∧ w.alloc (.cells (rdC ⟨0, l⟩) 157) = w' := by
 go_enter Tryz.func57, Tryz.ntmps57
 go_wp2
 go_ret
 exact ⟨rfl, rfl⟩

def GM (w : World) (g : Nat) (p : List UInt8 × Bool × Rd) (e : Ending) (w' : World) : Prop :=
 e = .returned (.tuple #[.string ⟨p.1.toArray⟩, .bool p.2.1]) ∧ RdGo w g p.2.2 w'
theorem drop_str (l : List UInt8) (n : Nat) : (ByteArray.mk l.toArray).extract n (ByteArray.mk l.toArray).size = ByteArray.mk (l.drop n).toArray := by
 rw [ByteArray.extract_mk]
 congr 2
 exact List.take_of_length_le (by simp [ByteArray.size])
theorem Vd (l : List UInt8) (n : Nat) : (ByteArray.mk l.toArray).extract 0 n = ByteArray.mk (l.take n).toArray := by
 rw [ByteArray.extract_mk]; simp
theorem size_str (l : List UInt8) : (ByteArray.mk l.toArray).size = l.length := by simp [ByteArray.size]
set_option maxHeartbeats 1000000 in
theorem take_any (g : Nat) (r : Rd) (n : Nat) (hl : r.rest.length < 4611686018427387904) (w : World) (h : RdAt w g r) :
  Calls Tryz.prog 96 #[.pointer (some ⟨g, 0, none⟩), .int .u64 (n : Int)] w fun e w' => GM w g (r.take n) e w' := by
 have c1 := h.c1
 have f1 := h.f1
 have hsz := size_str r.rest
 by_cases hz : r.err = 0
 ·have hf := NB hz
  by_cases hs : r.rest.length < n
  ·have ht : r.take n = ([], false, r.fail 3) := by unfold Rd.take; rw [if_neg (by omega), if_pos hs]
   rw [ht]
   clear ht hz
   have hs2 : ((r.rest.length : Nat) : Int) < (n : Int) := by omega
   go_enter Tryz.func96, Tryz.ntmps96
   go_wp2_with fail
   refine (FG _ g r h).mono ?_; rintro e w' ⟨rfl, rfl⟩
   go_wp2_with fail
   refine (IK _ g r 3 h).mono ?_; rintro e w1 ⟨⟨v, rfl⟩, hgo⟩
   go_wp2_with fail
   go_ret2
   exact ⟨rfl, hgo⟩
  ·have ht : r.take n = (r.rest.take n, true, { r with rest := r.rest.drop n }) := by unfold Rd.take; rw [if_neg (by omega), if_neg hs]
   rw [ht]
   clear ht hz
   have hs2 : ¬ ((r.rest.length : Nat) : Int) < (n : Int) := by omega
   have E1 := Vd r.rest n
   have E2 := drop_str r.rest n
   rw [hsz] at E2
   have hs1 := Lib.hid (h.set1 (r.rest.drop n))
   go_enter Tryz.func96, Tryz.ntmps96
   go_wp2_with fail
   refine (FG _ g r h).mono ?_; rintro e w' ⟨rfl, rfl⟩
   go_wp2_with fail
   go_ret2
   exact ⟨rfl, hs1.out⟩
 ·have hf := LV hz
  have ht : r.take n = ([], false, r) := by unfold Rd.take; rw [if_pos hz]
  rw [ht]
  have H := Lib.hid h.go
  clear ht hz
  go_enter Tryz.func96, Tryz.ntmps96
  go_wp2_with fail
  refine (FG _ g r h).mono ?_; rintro e w' ⟨rfl, rfl⟩
  go_wp2_with fail
  go_ret2
  exact ⟨rfl, H.out⟩

def Md (w : World) (g : Nat) (p : Nat × Rd) (e : Ending) (w' : World) : Prop := e = .returned (.int .u64 (p.1 : Int)) ∧ RdGo w g p.2 w'
def MX (w : World) (g : Nat) (p : Nat × Rd) (e : Ending) (w' : World) : Prop := e = .returned (.int .u8 (p.1 : Int)) ∧ RdGo w g p.2 w'
theorem index_str (l : List UInt8) (k : Nat) (b : UInt8) (h : l[k]? = some b) : (ByteArray.mk l.toArray)[k]? = some b := by
 have hk : k < l.length := (List.getElem?_eq_some_iff.1 h).1
 have hz : k < (ByteArray.mk l.toArray).size := by rw [size_str]; exact hk
 rw [getElem?_pos (ByteArray.mk l.toArray) k hz]
 rw [List.getElem?_eq_getElem hk] at h
 rw [← Option.some.inj h]
 rfl
theorem JE (g : Nat) (r : Rd) (hl : r.rest.length < 4611686018427387904) (w : World) (h : RdAt w g r) :
  Calls Tryz.prog 58 #[.pointer (some ⟨g, 0, none⟩)] w fun e w' => MX w g r.byte e w' := by
 have ht := take_any g r 1 hl w h
 unfold Rd.byte
 obtain ⟨s, ok, r', hp⟩ : ∃ s ok r', r.take 1 = (s, ok, r') := ⟨_, _, _, rfl⟩
 rw [hp] at ht ⊢
 have HT := Lib.hid ht
 clear ht
 cases ok
 ·go_enter Tryz.func58, Tryz.ntmps58
  go_wp2_with fail
  refine HT.out.mono ?_; rintro e w' ⟨rfl, hgo⟩
  go_wp2_with fail
  go_ret
  exact ⟨rfl, hgo⟩
 ·have hs : s.length = 1 := by
   unfold Rd.take at hp
   split at hp
   ·cases hp
   ·split at hp
    ·cases hp
    ·cases hp
     rw [List.length_take]; omega
  match s, hs with
  | [b], _ =>
   clear hp
   go_enter Tryz.func58, Tryz.ntmps58
   go_wp2_with fail
   refine HT.out.mono ?_; rintro e w' ⟨rfl, hgo⟩
   go_wp2_with fail
   go_ret
   exact ⟨rfl, hgo⟩
end Go.Proofs.YteiaiilfekojfaaGreat.Wire
end
section
set_option linter.unusedVariables false
set_option linter.unusedSimpArgs false
namespace Go.Proofs.YteiaiilfekojfaaGreat.Sx
open Go.RowKit DrawInv
section
variable {P : Program} {ρ : Operand → Value} {o : Oper} {w : World} {vs : Vs}
theorem RE {t : TypeId} {x y : Operand} {l r : List UInt8} {k : IntKind} {n : Nat} (E : Env vs ρ) (ho : o.op = .slice t x (some y) none none) (ht : P.underlying t = some .string) (hx : opv vs x = some (.string ⟨l.toArray⟩)) (hy : opv vs y = some (.int k (n : Int))) (hn : n ≤ l.length) (hr : l.drop n = r) : (execOp ρ o).run P w = .ok (.value (.string ⟨r.toArray⟩)) w := by
 subst hr
 unfold execOp; rw [ho]
 have h := run_slice_string_l (P := P) w t ⟨l.toArray⟩ ht k (n : Int) (by omega) (by rw [Wire.size_str]; omega)
 simp only [Int.toNat_natCast, Wire.drop_str] at h
 simp only [E.ev hx, E.ev hy, Option.map_some, Option.map_none, Instr.sliceAt, Sem.run_bind, run_underlying ht, h, Result.andThen_ok, Sem.run_pure]
theorem EM {t : TypeId} {x y : Operand} {l : List UInt8} {b : UInt8} {k : IntKind} {n : Nat} {z : Int} (E : Env vs ρ) (ho : o.op = .index t x y) (ht : P.underlying t = some .string) (hx : opv vs x = some (.string ⟨l.toArray⟩)) (hy : opv vs y = some (.int k (n : Int))) (hb : l[n]? = some b) (hz : (b.toNat : Int) = z) : (execOp ρ o).run P w = .ok (.value (.int .u8 z)) w := by
 subst hz
 unfold execOp; rw [ho]
 have h1 : (⟨l.toArray⟩ : ByteArray)[n]? = some b := Wire.index_str l n b hb
 simp only [E.ev hx, E.ev hy, Instr.index, asIntOf, run_underlying ht, Sem.run_bind, Sem.run_pure, Result.andThen_ok]
 simp [h1]
end
theorem PK {w : World} {base : Nat} {e : TypeId} {size : Nat} {A : Option Addr} {n c m : Nat} {xs : List Value} (h : w.ownsRow base e size (.slice A n c) m xs) (hn : 0 < m) : ∃ g, A = some ⟨g, 0, none⟩ := by
 rcases h.2 with ⟨_, h0⟩ | ⟨g, cap, cur, ev, _⟩
 ·omega
 ·injection ev with e1 _ _
  exact ⟨g, e1⟩
section
variable {P : Program} {ops : Array Oper} {Q Q' : Exit → Act → World → Prop} {n : Nat} {vs : Vs} {w0 : World} {L : List Ft} {o : Oper} {rest : List Oper}
end
theorem Jg {P : Program} {ρ : Operand → Value} {o : Oper} {w : World} {vs : Vs} {T U : TypeId} {x y : Operand} {a b t : Bool} (E : Env vs ρ) (ho : o.op = .binOp .neq T x y U) (hT : P.underlying T = some .bool) (hx : opv vs x = some (.bool a)) (hy : opv vs y = some (.bool b)) (ht : (a != b) = t) : (execOp ρ o).run P w = .ok (.value (.bool t)) w := by
 subst ht
 unfold execOp; rw [ho]
 simp only [E.ev hx, E.ev hy]
 have h : (Op.equal T (.bool a) (.bool b)).run P w = .ok (a == b) w := by
  unfold Op.equal
  rw [show Op.maxDepth = 9999 + 1 from rfl]
  unfold Op.equalIn
  simp only [run_underlying hT, Sem.run_bind, Result.andThen_ok, Sem.run_pure]
 have h2 : (a != b) = !(a == b) := rfl
 simp only [eqGuard, Sem.run_bind, Sem.run_pure, Result.andThen_ok, ite_self, binOp, h, h2]
theorem TT {α : Type} {w : World} {g t sz : Nat} {cells : α → List Value} {x : α} (h : Blk w g t (cells x).toArray) : Rows w (some ⟨g, 0, none⟩) sz cells [x] := by
 intro k y hk
 have hk0 : k = 0 := by have := (List.getElem?_eq_some_iff.1 hk).1; simp at this; omega
 subst hk0
 obtain rfl : x = y := by simpa using hk
 refine ⟨_, rfl, Blk.lt h, fun j v hj => ?_⟩
 rw [Nat.zero_mul, Nat.zero_add, Gj, Nat.zero_add, h.cell j]
 simpa using hj
end Go.Proofs.YteiaiilfekojfaaGreat.Sx
end
section
namespace Go.Proofs.YteiaiilfekojfaaGreat.Wire
open Go.RowKit

theorem L9 (n : Nat) (hn : n < 18446744073709551616) (w : World) :
  Calls Tryz.prog 161 #[.int .u64 (n : Int)] w fun e w' => e = .returned (.int .i64 (Di n : Nat)) ∧ w = w' := by
 have hl := Lib.bitLen_le n 64 (by omega) (by simpa using hn)
 go_enter Tryz.func161, Tryz.ntmps161
 go_wp2_with fail
 refine (len64_any _ _ (by omega) (by omega)).mono ?_; rintro e w' ⟨rfl, rfl⟩
 rw [Int.toNat_natCast]
 go_wp2_with fail
 go_ret
 exact ⟨congrArg Ending.returned (congrArg (Value.int IntKind.i64) (by unfold Di; omega)), rfl⟩
end Go.Proofs.YteiaiilfekojfaaGreat.Wire
end
section
namespace Go.Proofs.YteiaiilfekojfaaGreat.Wire
open Go.RowKit

def NI (b : UInt8) : Value := .int .u8 (b.toNat : Int)
def bv (l : List UInt8) : List Value := l.map NI
theorem NJ (l : List UInt8) : ∀ u ∈ bv l, u.oneCell' = true := by
 intro u hu
 obtain ⟨b, _, rfl⟩ := List.mem_map.1 hu
 rfl
theorem O6 (l : List UInt8) : (bv l).length = l.length := List.length_map ..
theorem F4 (a b : List UInt8) : bv (a ++ b) = bv a ++ bv b := List.map_append
theorem Wy (l : List UInt8) : Lib.strCells ⟨l.toArray⟩ = bv l := rfl
theorem Hq : (Tryz.prog.info? 5).map (fun i => (i.zero, i.size, i.bytes)) = some (some (.int .u8 0), 1, 1) := by kernel_rfl
theorem S9 : (Tryz.prog.info? 5).map (·.size) = some 1 := by kernel_rfl
def RetB (w w' : World) (e : Ending) (l : List UInt8) : Prop :=
 ∃ v, e = .returned v ∧ w'.ownsRow w.heap.size 5 1 v l.length (bv l) ∧ Below w.heap.size w w'
theorem DG {w : World} {base : Nat} {e : TypeId} {v : Value} {n : Nat} {xs : List Value} (h : w.ownsRow base e 1 v n xs) : ∃ A c, v = .slice A n c ∧ Reads w w.heap.size 1 A n xs := by
 have h' := h
 rcases h.2 with ⟨rfl, rfl⟩ | ⟨g, cap, cur, rfl, _⟩
 ·obtain rfl : xs = [] := List.eq_nil_of_length_eq_zero (by simpa using h.1)
  exact ⟨none, 0, rfl, Reads.none_⟩
 ·exact ⟨_, _, rfl, Reads.of_own h'⟩
theorem GO {w wr w1 : World} {base : Nat} {e : TypeId} {size : Nat} {v : Value} {n : Nat} {xs : List Value} {o : Obj} (hown : wr.ownsRow base e size v n xs) (hB : Below base w wr) (hbase : base ≤ wr.heap.size) (hg : (wr.alloc o).grownBy w1 v.ownBlock) : Below base w w1 :=
 (hB.alloc hbase o).grown hg (by simp; omega) (fun k hk => (hown.lt k hk).1)
theorem J3 (z : Array Value) (n : Nat) : (madeCells z n).toList.length = n := by rw [Array.length_toList, size_madeCells]
theorem P8 {L cs : List Value} (_h : cs.length ≤ L.length) : (splice L 0 cs).take cs.length = cs := by simp [splice]
theorem K4 {w : World} {g base n c : Nat} {L cs : List Value} {t : TypeId} (hb : base ≤ g) (h : w.heap[g]? = some (.cells (splice L 0 cs).toArray t (0, 0))) (hn : cs.length = n) (hL : L.length = c) (hc : n ≤ c) (hm : c ≤ maxLen) :
  w.ownsRow base t 1 (.slice (some ⟨g, 0, none⟩) n c) n cs := by
 refine ⟨by omega, .inr ⟨g, c, _, rfl, hb, h, hc, hm, ?_, ?_⟩⟩
 ·have := length_splice L 0 cs (by omega)
  simp; omega
 ·have := P8 (L := L) (cs := cs) (by omega)
  rw [hn] at this
  simpa using this

theorem NH (x m : Nat) : ((x : Int) / 2 ^ (8 * m) % 256) = ((UInt8.ofNat (x / 256 ^ m)).toNat : Int) := by
 rw [UInt8.toNat_ofNat', show (256 : Nat) ^ m = 2 ^ (8 * m) from by rw [show (256 : Nat) = 2 ^ 8 from rfl, ← Nat.pow_mul]]
 generalize hp : (2 : Nat) ^ (8 * m) = q
 have : (2 : Int) ^ (8 * m) = ((q : Nat) : Int) := by rw [← hp]; simp
 rw [this]
 omega

def YI (w : World) (l : List UInt8) (x : Nat) (v i : Value) (wr : World) : Prop :=
 ∃ (j : Nat) (pre : List UInt8), j ≤ 8 ∧ i = .int .i64 ((j : Int) - 1) ∧ Hid (pre ++ beB j x = l ++ BI x) ∧ pre.length ≤ l.length + 9 ∧ wr.ownsRow w.heap.size 5 1 v pre.length (bv pre) ∧ Below w.heap.size w wr

set_option maxRecDepth 100000 in
set_option maxHeartbeats 4000000 in
theorem Ip (A : Option Addr) (c : Nat) (l : List UInt8) (x : Nat) (hx : x < 18446744073709551616) (hl : l.length ≤ 1099511627776) (w : World) (hr : Reads w w.heap.size 1 A l.length (bv l)) :
  Calls Tryz.prog 88 #[.slice A l.length c, .int .u64 (x : Int)] w fun e w' => RetB w w' e (l ++ BI x) := by
 obtain ⟨i0, hi, hz0, hz1, hz2⟩ := info_parts Hq
 have hbl := O6 l
 obtain ⟨cs, hcs⟩ : ∃ cs, cs = bv l := ⟨_, rfl⟩
 rw [← hcs] at hr hbl
 have hmk := fun W => NS (P := Tryz.prog) 103 5 i0 (.int .u8 0) Tryz.underlying103 hi hz0 .i64 .i64 l.length (l.length + 9) (by omega) (by rw [hz2]; omega) (by omega) W
 rw [hz1, Nat.mul_one] at hmk
 have e9 : (((l.length + 9 : Nat)) : Int) = (l.length : Int) + 9 := by omega
 rw [e9] at hmk
 have HC := Lib.hid hcs
 have P1 : Hid ((w.alloc (.cells (madeCells #[.int .u8 0] (l.length + 9)) 5)).heap[w.heap.size]? = some (.cells (madeCells #[.int .u8 0] (l.length + 9)).toList.toArray 5 (0, 0))) := by
  show _ = _
  rw [Array.toArray_toList]; exact heap_alloc_new w _
 have P2 : Hid (cs.length = Nat.min l.length l.length) := by show _ = _; rw [hbl]; exact (Nat.min_self _).symm
 have P3 : Hid (0 < cs.length → some (⟨w.heap.size, 0, none⟩ : Addr) = some ⟨w.heap.size, 0, none⟩ ∧ ∃ ad, A = some ad ∧ ∀ (j : Nat) v, cs[j]? = some v → (w.alloc (.cells (madeCells #[.int .u8 0] (l.length + 9)) 5)).cell? (ad.add j) = some v) := by
  intro h0
  obtain ⟨ad, hA, _, hcell⟩ := (hr.alloc (Nat.le_refl _) _).2 (by omega)
  exact ⟨rfl, ad, hA, hcell⟩
 have P4 : Hid (0 + cs.length ≤ (madeCells #[.int .u8 0] (l.length + 9)).toList.length) := by show _ ≤ _; rw [J3]; omega
 have P5 : Hid (∀ v ∈ cs, v.oneCell' = true) := by rw [hcs]; exact NJ l
 have P6 : Hid (Below w.heap.size w (w.alloc (.cells (madeCells #[.int .u8 0] (l.length + 9)) 5))) := (Below.refl _ w).alloc (Nat.le_refl _) _
 have HL := Lib.hid hbl
 clear hcs hr e9 hbl
 by_cases h8 : x < 248
 ·go_enter Tryz.func88, Tryz.ntmps88
  go_wp2_with (first
   | (with_reducible refine wpList_copy_splice rfl (.tmp 14) (.tmp 15) _ _ rfl 5 Tryz.underlying103 S9 _ _ _ _ _ _ rfl rfl w.heap.size 0 (madeCells #[.int .u8 0] (l.length + 9)).toList 5 P1.out cs P2.out P3.out P4.out P5.out w.heap.size w P6.out (Nat.le_refl _) ?_; intro w1 hsp hb1; have hown1 := K4 (Nat.le_refl _) hsp.out HL.out (J3 _ _) (by omega) (by unfold maxLen; omega))
   | (at_builtin; go_must (refine wpList_append_own _ rfl (.tmp 19) (.tmp 22) 103 rfl w.heap.size 5 i0 (.int .u8 0) 1 1 Tryz.underlying103 hi hz0 hz1 hz2 rfl (by decide) _ _ _ rfl (hown1.alloc _) ⟨w1.heap.size, 0, none⟩ 1 1 [.int .u8 (x : Int)] rfl rfl (cell_one_new _ _ _) (by simp [Value.oneCell']) (by unfold maxLen; omega) (by omega) (by have := hb1.size; simp; omega) ?_); intro v' w2 hown' hgrow _))
  go_ret
  have hB2 := GO hown1 hb1 hb1.size hgrow
  refine ⟨v', rfl, ?_, hB2⟩
  have e1 : BI x = [UInt8.ofNat x] := by unfold BI; rw [if_pos h8]
  have e2 : bv (l ++ [UInt8.ofNat x]) = cs ++ [.int .u8 (x : Int)] := by
   rw [F4, ← HC.out]
   congr 1
   show [Value.int .u8 ((UInt8.ofNat x).toNat : Int)] = _
   rw [UInt8.toNat_ofNat', Nat.mod_eq_of_lt (by omega)]
  rw [e1, e2, List.length_append]
  exact hown'
 ·have hw := Hk x (by omega) hx
  obtain ⟨k, hk⟩ : ∃ k, k = Di x := ⟨_, rfl⟩
  have hk1 : 1 ≤ k := by omega
  have hk8 : k ≤ 8 := by omega
  have HW : Hid (∀ W : World, Calls Tryz.prog 161 #[.int .u64 (x : Int)] W fun e w' => e = .returned (.int .i64 (k : Nat)) ∧ W = w') := fun W => by rw [hk]; exact L9 x hx W
  have HK := Lib.hid hk
  clear hw hk
  go_enter Tryz.func88, Tryz.ntmps88
  go_wp2_with (first
   | (go_at_call 161; refine (HW.out _).mono ?_; rintro e w' ⟨rfl, rfl⟩)
   | (with_reducible refine wpList_copy_splice rfl (.tmp 14) (.tmp 15) _ _ rfl 5 Tryz.underlying103 S9 _ _ _ _ _ _ rfl rfl w.heap.size 0 (madeCells #[.int .u8 0] (l.length + 9)).toList 5 P1.out cs P2.out P3.out P4.out P5.out w.heap.size w P6.out (Nat.le_refl _) ?_; intro w1 hsp hb1; have hown1 := K4 (Nat.le_refl _) hsp.out HL.out (J3 _ _) (by omega) (by unfold maxLen; omega))
   | (at_builtin; go_must (refine wpList_append_own _ rfl (.tmp 26) (.tmp 30) 103 rfl w.heap.size 5 i0 (.int .u8 0) 1 1 Tryz.underlying103 hi hz0 hz1 hz2 rfl (by decide) _ _ _ rfl (hown1.alloc _) ⟨w1.heap.size, 0, none⟩ 1 1 [.int .u8 (247 + (k : Int))] rfl rfl (cell_one_new _ _ _) (by simp [Value.oneCell']) (by unfold maxLen; omega) (by omega) (by have := hb1.size; simp; omega) ?_); intro v' w2 hown' hgrow _))
  have hB2 := GO hown1 hb1 hb1.size hgrow
  go_loopw [5, 7] (fun v i wr => YI w l x v i wr) (fun _ i _ => (intOf i + 1).toNat)
  case atStart =>
   have e1 : BI x = UInt8.ofNat (247 + k) :: beB k x := by unfold BI; rw [if_neg h8, ← HK.out]
   have e2 : bv (l ++ [UInt8.ofNat (247 + k)]) = cs ++ [.int .u8 (247 + (k : Int))] := by
    rw [F4, ← HC.out]
    congr 1
    show [Value.int .u8 ((UInt8.ofNat (247 + k)).toNat : Int)] = _
    rw [UInt8.toNat_ofNat', Nat.mod_eq_of_lt (by omega)]
    rfl
   exact ⟨k, l ++ [UInt8.ofNat (247 + k)], hk8, rfl, by show _ = _; rw [e1]; simp, by simp, by rw [e2, List.length_append]; exact hown', hB2⟩
  case round =>
   obtain ⟨j, pre, hj, rfl, hpre, hpl, hown, hB⟩ := hrel
   clear hB2 hown' hgrow hb1 hsp
   by_cases hj0 : j = 0
   ·subst hj0
    go_wp2
    go_ret
    exact ⟨_, rfl, by rw [← hpre.out]; simpa [beB] using hown, hB⟩
   ·obtain ⟨m, rfl⟩ : ∃ m, j = m + 1 := ⟨j - 1, by omega⟩
    have em : (((m + 1 : Nat)) : Int) - 1 = (m : Int) := by omega
    rw [em]
    clear em hj0
    have hp2 : pre.length + 1 ≤ l.length + 9 := by
     have h := congrArg List.length hpre.out
     rw [List.length_append, List.length_append, Gm] at h
     have := (B0 x hx).1
     omega
    go_wp2_with (at_builtin; go_must (refine wpList_append_own _ rfl (.tmp 38) (.tmp 44) 103 rfl w.heap.size 5 i0 (.int .u8 0) 1 1 Tryz.underlying103 hi hz0 hz1 hz2 rfl (by decide) _ _ _ rfl (hown.alloc _) ⟨wr.heap.size, 0, none⟩ 1 1 [.int .u8 ((x : Int) / 2 ^ (8 * m) % 256)] rfl rfl (cell_one_new _ _ _) (by simp [Value.oneCell']) (by unfold maxLen; omega) (by omega) (by have := hB.size; simp; omega) ?_); intro v3 w3 hown3 hgrow3 _)
    have hB3 := GO hown hB hB.size hgrow3
    refine ⟨⟨m, pre ++ [UInt8.ofNat (x / 256 ^ m)], by omega, rfl, ?_, by rw [List.length_append, List.length_singleton]; exact hp2, ?_, hB3⟩, by simp [intOf]⟩
    ·show _ = _
     rw [← hpre.out, beB]; simp
    ·rw [List.length_append, F4]
     show w3.ownsRow _ _ _ _ _ (bv pre ++ [Value.int .u8 ((UInt8.ofNat (x / 256 ^ m)).toNat : Int)])
     rw [← NH]
     exact hown3

theorem S4 (A : Option Addr) (c : Nat) (l s : List UInt8) (hl : l.length ≤ 1000000000) (hs : s.length ≤ 1000000000) (w : World) (hr : Reads w w.heap.size 1 A l.length (bv l)) :
  Calls Tryz.prog 122 #[.slice A l.length c, .string ⟨s.toArray⟩] w fun e w' => RetB w w' e (l ++ CM s) := by
 obtain ⟨i0, hi, hz0, hz1, hz2⟩ := info_parts Hq
 have hsz : (ByteArray.mk s.toArray).size = s.length := by simp [ByteArray.size]
 have hN := Lib.hid (Ip A c l s.length (by omega) (by omega) w hr)
 have hn9 := (B0 s.length (by omega)).1
 obtain ⟨m, hm⟩ : ∃ m, m = (l ++ BI s.length).length := ⟨_, rfl⟩
 have hm2 : m ≤ l.length + 9 := by rw [hm, List.length_append]; omega
 have HM := Lib.hid hm
 clear hm hr
 go_enter Tryz.func122, Tryz.ntmps122
 go_wp2_with fail
 refine hN.out.mono ?_; rintro e w1 ⟨v, rfl, hown, hB⟩
 rw [← HM.out] at hown
 go_wp2_with (at_builtin; go_must (refine Lib.wpList_append_own_string _ rfl (.tmp 9) (.tmp 10) 103 9 rfl w.heap.size 5 i0 Tryz.underlying103 Tryz.underlying9 hi hz0 hz1 hz2 v m (bv (l ++ BI s.length)) rfl hown ⟨s.toArray⟩ rfl (by rw [hsz]; unfold maxLen; omega) (by rw [hsz]; omega) hB.size ?_); intro v2 w2 hown2 hgrow2 _)
 go_ret
 refine ⟨v2, rfl, ?_, hB.grown hgrow2 hB.size (fun k hk => (hown.lt k hk).1)⟩
 rw [Wy, hsz] at hown2
 have e1 : l ++ CM s = (l ++ BI s.length) ++ s := by unfold CM; simp
 rw [e1, List.length_append, ← HM.out, F4]
 exact hown2
end Go.Proofs.YteiaiilfekojfaaGreat.Wire
end
section
namespace Go.Proofs.YteiaiilfekojfaaGreat.Wire
open Go.RowKit

theorem Pz (v b : Nat) (hv : v * 256 < 18446744073709551616) (hb : b < 256) : bits .or .u64 ((v : Int) * 256) (IntKind.u64.wrap (b : Int)) = ((v * 256 + b : Nat) : Int) := by
 rw [IntKind.wrap_u64]
 have e1 : (v : Int) * 256 = ((v * 256 : Nat) : Int) := by omega
 have e2 : (b : Int) % 18446744073709551616 = ((b : Nat) : Int) := by omega
 rw [e1, e2, u64_or_nat _ _ (by omega) (by omega)]
 congr 1
 have h := Nat.shiftLeft_add_eq_or_of_lt (i := 8) (b := b) (by omega) v
 rw [Nat.shiftLeft_eq] at h
 exact h.symm
theorem VB {s : List UInt8} {j k v : Nat} (hv : Hid (v = valB (s.take j))) (hj : j < k) (hk : k ≤ 8) (hs : j < s.length) :
  v * 256 < 18446744073709551616 ∧ Hid (v * 256 + s[j].toNat = valB (s.take (j + 1))) ∧ v * 256 + s[j].toNat < 18446744073709551616 := by
 have hlt := OH s j
 rw [← hv.out] at hlt
 have hp : 256 ^ j ≤ 256 ^ 7 := Nat.pow_le_pow_right (by omega) (by omega)
 have hp7 : (256 : Nat) ^ 7 = 72057594037927936 := by decide
 have hb := s[j].toNat_lt
 refine ⟨by omega, ?_, by omega⟩
 show _ = _
 rw [hv.out]
 exact (T8 s j s[j] (List.getElem?_eq_getElem hs)).symm

set_option maxRecDepth 100000 in
set_option maxHeartbeats 2000000 in
theorem OX (g : Nat) (r : Rd) (hl : r.rest.length < 4611686018427387904) (w : World) (h : RdAt w g r) :
  Calls Tryz.prog 140 #[.pointer (some ⟨g, 0, none⟩)] w fun e w' => Md w g r.num e w' := by
 have hb := JE g r hl w h
 unfold Rd.num
 obtain ⟨c, r1, hp⟩ : ∃ c r1, r.byte = (c, r1) := ⟨_, _, rfl⟩
 rw [hp] at hb ⊢
 have HB := Lib.hid hb
 have hc := Kt hp
 have hl1 := Nat.lt_of_le_of_lt (H4 hp) hl
 clear hb hp h hl
 simp only
 by_cases h8 : c < 248
 ·rw [if_pos h8]
  go_enter Tryz.func140, Tryz.ntmps140
  go_wp2_with fail
  refine HB.out.mono ?_; rintro e w1 ⟨rfl, hgo⟩
  go_wp2_with fail
  go_ret
  exact ⟨rfl, hgo⟩
 ·rw [if_neg h8]
  obtain ⟨k, hk⟩ : ∃ k, c = 247 + k := ⟨c - 247, by omega⟩
  subst hk
  have hk1 : 1 ≤ k := by omega
  have hk8 : k ≤ 8 := by omega
  rw [show 247 + k - 247 = k from by omega]
  obtain ⟨s, ok, r2, ht⟩ : ∃ s ok r2, r1.take k = (s, ok, r2) := ⟨_, _, _, rfl⟩
  rw [ht]
  have HT : Hid (∀ w1, RdAt w1 g r1 → Calls Tryz.prog 96 #[.pointer (some ⟨g, 0, none⟩), .int .u64 (k : Int)] w1 fun e w' => GM w1 g (s, ok, r2) e w') := fun w1 h1 => by
   have := take_any g r1 k hl1 w1 h1
   rwa [ht] at this
  cases ok
  ·clear ht
   go_enter Tryz.func140, Tryz.ntmps140
   go_wp2_with fail
   refine HB.out.mono ?_; rintro e w1 ⟨rfl, hgo⟩
   go_wp2_with fail
   rw [show ((247 : Int) + (k : Int) - 247) = (k : Int) from by omega]
   refine (HT.out _ hgo.1).mono ?_; rintro e w2 ⟨rfl, hgo2⟩
   go_wp2_with fail
   go_ret
   exact ⟨rfl, hgo.trans hgo2⟩
  ·have hs := P7 ht
   have HS := Lib.hid hs
   clear ht hs
   simp only
   generalize hp : (if valB s < 248 ∨ Di (valB s) ≠ k then (0, r2.fail 4) else (valB s, r2)) = p
   have HP := Lib.hid hp
   clear hp
   go_enter Tryz.func140, Tryz.ntmps140
   go_wp2_with fail
   refine HB.out.mono ?_; rintro e w1 ⟨rfl, hgo⟩
   go_wp2_with fail
   rw [show ((247 : Int) + (k : Int) - 247) = (k : Int) from by omega]
   refine (HT.out _ hgo.1).mono ?_; rintro e w2 ⟨rfl, hgo2⟩
   go_wp2_with fail
   go_loop [7, 28] (fun n i => ∃ j v : Nat, j ≤ k ∧ i = .int .i64 j ∧ n = .int .u64 (v : Int) ∧ Hid (v = valB (s.take j)) ∧ v < 18446744073709551616) (fun _ i => k - (intOf i).toNat)
   case atStart => exact ⟨0, 0, by omega, rfl, rfl, rfl, by omega⟩
   case round =>
    obtain ⟨j, v, hj, rfl, rfl, hv, hv64⟩ := hrel
    by_cases hjk : j < k
    ·have hjs : j < s.length := by rw [HS.out]; exact hjk
     have hix := index_str s j s[j] (List.getElem?_eq_getElem hjs)
     have hsz := size_str s
     have hlt := s[j].toNat_lt
     obtain ⟨g1, g2, g3⟩ := VB hv hjk hk8 hjs
     have hlt2 : s[j].toNat < 256 := by omega
     clear hlt
     go_wp2
     exact ⟨⟨j + 1, v * 256 + s[j].toNat, by omega, by go_num, by rw [← Pz v s[j].toNat g1 hlt2]; rfl, g2, g3⟩, by simp [intOf]; omega⟩
    ·obtain rfl : j = k := by omega
     have hvs : v = valB s := by rw [hv.out, List.take_of_length_le (by rw [HS.out]; exact Nat.le_refl _)]
     subst hvs
     have hgo3 := hgo.trans hgo2
     by_cases h2 : valB s < 248
     ·have hform : Hid (valB s < 248 ∨ Di (valB s) ≠ j) := .inl h2
      go_wp2_with fail
      refine (IK _ g r2 4 hgo2.1).mono ?_; rintro e w3 ⟨⟨v, rfl⟩, hgo4⟩
      go_wp2_with fail
      go_ret
      rw [← HP.out, if_pos hform.out]
      exact ⟨rfl, hgo3.trans hgo4⟩
     ·by_cases h3 : Di (valB s) = j
      ·have hform : Hid (¬ (valB s < 248 ∨ Di (valB s) ≠ j)) := by show ¬ _; omega
       have h3b : (((Di (valB s) : Nat) : Int) != (j : Int)) = false := by rw [h3]; simp
       clear h3
       go_wp2_with fail
       refine (L9 _ hv64 _).mono ?_; rintro e w' ⟨rfl, rfl⟩
       go_wp2_with fail
       go_ret
       rw [← HP.out, if_neg hform.out]
       exact ⟨rfl, hgo3⟩
      ·have hform : Hid (valB s < 248 ∨ Di (valB s) ≠ j) := .inr h3
       have h3b : (((Di (valB s) : Nat) : Int) != (j : Int)) = true := by rw [bne_iff_ne]; omega
       clear h3
       go_wp2_with fail
       refine (L9 _ hv64 _).mono ?_; rintro e w' ⟨rfl, rfl⟩
       go_wp2_with fail
       refine (IK _ g r2 4 hgo2.1).mono ?_; rintro e w3 ⟨⟨v, rfl⟩, hgo4⟩
       go_wp2_with fail
       go_ret
       rw [← HP.out, if_pos hform.out]
       exact ⟨rfl, hgo3.trans hgo4⟩

set_option maxHeartbeats 1000000 in
theorem O8 (g : Nat) (r : Rd) (n : Nat) (hl : r.rest.length < 4611686018427387904) (w : World) (h : RdAt w g r) :
  Calls Tryz.prog 164 #[.pointer (some ⟨g, 0, none⟩), .int .u64 (n : Int)] w fun e w' => Md w g (r.below n) e w' := by
 have hb := OX g r hl w h
 unfold Rd.below
 obtain ⟨c, r1, hp⟩ : ∃ c r1, r.num = (c, r1) := ⟨_, _, rfl⟩
 rw [hp] at hb ⊢
 have HB := Lib.hid hb
 clear hb hp h hl
 simp only
 by_cases he : r1.err ≠ 0
 ·have hf := LV he
  rw [if_pos he]
  clear he
  go_enter Tryz.func164, Tryz.ntmps164
  go_wp2_with fail
  refine HB.out.mono ?_; rintro e w1 ⟨rfl, hgo⟩
  go_wp2_with fail
  refine (FG _ g r1 hgo.1).mono ?_; rintro e w' ⟨rfl, rfl⟩
  go_wp2_with fail
  go_ret
  exact ⟨rfl, hgo⟩
 ·have hf := NB (r := r1) (by omega)
  rw [if_neg he]
  clear he
  by_cases hc : n ≤ c
  ·rw [if_pos hc]
   go_enter Tryz.func164, Tryz.ntmps164
   go_wp2_with fail
   refine HB.out.mono ?_; rintro e w1 ⟨rfl, hgo⟩
   go_wp2_with fail
   refine (FG _ g r1 hgo.1).mono ?_; rintro e w' ⟨rfl, rfl⟩
   go_wp2_with fail
   refine (IK _ g r1 4 hgo.1).mono ?_; rintro e w3 ⟨⟨v, rfl⟩, hgo4⟩
   go_wp2_with fail
   go_ret
   exact ⟨rfl, hgo.trans hgo4⟩
  ·rw [if_neg hc]
   go_enter Tryz.func164, Tryz.ntmps164
   go_wp2_with fail
   refine HB.out.mono ?_; rintro e w1 ⟨rfl, hgo⟩
   go_wp2_with fail
   refine (FG _ g r1 hgo.1).mono ?_; rintro e w' ⟨rfl, rfl⟩
   go_wp2_with fail
   go_ret
   exact ⟨rfl, hgo⟩

theorem Me (g : Nat) (r : Rd) (n : Nat) (hl : r.rest.length < 4611686018427387904) (w : World) (h : RdAt w g r) :
  Calls Tryz.prog 92 #[.pointer (some ⟨g, 0, none⟩), .int .u64 (n : Int)] w fun e w' => Md w g (r.below n) e w' := by
 have HB := Lib.hid (O8 g r n hl w h)
 go_enter Tryz.func92, Tryz.ntmps92
 go_wp2_with fail
 refine HB.out.mono ?_; rintro e w1 ⟨rfl, hgo⟩
 go_wp2_with fail
 go_ret
 exact ⟨rfl, hgo⟩

def WH (w : World) (g : Nat) (p : List UInt8 × Rd) (e : Ending) (w' : World) : Prop := e = .returned (.string ⟨p.1.toArray⟩) ∧ RdGo w g p.2 w'
theorem Xd (m : Int) (h1 : -9223372036854775808 ≤ m) (h2 : m ≤ 9223372036854775807) : ∃ n : Nat, n = (max m 0).toNat ∧ (n : Int) = max m 0 ∧ n ≤ 9223372036854775807 := ⟨_, rfl, by omega, by omega⟩
set_option maxRecDepth 100000 in
theorem S8 (g : Nat) (r : Rd) (m : Int) (h1 : -9223372036854775808 ≤ m) (h2 : m ≤ 9223372036854775807) (hl : r.rest.length < 4611686018427387904) (w : World) (h : RdAt w g r) :
  Calls Tryz.prog 124 #[.pointer (some ⟨g, 0, none⟩), .int .i64 m] w fun e w' => WH w g (r.str m) e w' := by
 obtain ⟨n, hn0, hn, hn2⟩ := Xd m h1 h2
 have hb := O8 g r (n + 1) hl w h
 unfold Rd.str
 rw [← hn0]
 have hm : max m 0 = (n : Int) := hn.symm
 obtain ⟨c, r1, hp⟩ : ∃ c r1, r.below (n + 1) = (c, r1) := ⟨_, _, rfl⟩
 rw [hp] at hb ⊢
 have HB := Lib.hid hb
 have hl1 := Nat.lt_of_le_of_lt (Jk hp) hl
 clear hb hp h hl hn0 hn
 simp only
 go_enter Tryz.func124, Tryz.ntmps124
 go_wp2_with fail
 refine HB.out.mono ?_; rintro e w1 ⟨rfl, hgo⟩
 go_wp2_with fail
 refine (take_any g r1 c hl1 w1 hgo.1).mono ?_; rintro e w2 ⟨rfl, hgo2⟩
 go_wp2_with fail
 go_ret
 exact ⟨rfl, hgo.trans hgo2⟩

theorem Py (g : Nat) (r : Rd) (w : World) (h : RdAt w g r) :
  Calls Tryz.prog 93 #[.pointer (some ⟨g, 0, none⟩)] w fun e w' => (∃ v, e = .returned v) ∧ RdGo w g r.bad w' := by
 go_enter Tryz.func93, Tryz.ntmps93
 go_wp2_with fail
 refine (IK _ g r 4 h).mono ?_; rintro e w3 ⟨⟨v, rfl⟩, hgo4⟩
 go_wp2_with fail
 go_end0
 exact ⟨⟨_, rfl⟩, hgo4⟩
theorem N2 (g : Nat) (r : Rd) (w : World) (h : RdAt w g r) :
  Calls Tryz.prog 95 #[.pointer (some ⟨g, 0, none⟩)] w fun e w' => e = .returned (.int .i64 (r.left : Int)) ∧ w = w' := by
 have c1 := h.c1
 have hsz := size_str r.rest
 unfold Rd.left
 by_cases he : r.err ≠ 0
 ·have hf := LV he
  rw [if_pos he]
  clear he
  go_enter Tryz.func95, Tryz.ntmps95
  go_wp2_with fail
  refine (FG _ g r h).mono ?_; rintro e w' ⟨rfl, rfl⟩
  go_wp2_with fail
  go_ret
  exact ⟨rfl, rfl⟩
 ·have hf := NB (r := r) (by omega)
  rw [if_neg he]
  clear he
  go_enter Tryz.func95, Tryz.ntmps95
  go_wp2_with fail
  refine (FG _ g r h).mono ?_; rintro e w' ⟨rfl, rfl⟩
  go_wp2_with fail
  go_ret
  exact ⟨rfl, rfl⟩
theorem Hu (g : Nat) (r : Rd) (w : World) (h : RdAt w g r) :
  Calls Tryz.prog 94 #[.pointer (some ⟨g, 0, none⟩)] w fun e w' => e = .returned (.int .i64 (r.err : Int)) ∧ w = w' := by
 have c0 := h.c0
 go_enter Tryz.func94, Tryz.ntmps94
 go_wp2
 go_ret
 exact ⟨rfl, rfl⟩
def Y5 (w : World) (g : Nat) (r : Rd) (e : Ending) (w' : World) : Prop := e = .returned (.int .i64 (r.err : Int)) ∧ RdGo w g r w'
theorem Xy (g : Nat) (r : Rd) (w : World) (h : RdAt w g r) :
  Calls Tryz.prog 59 #[.pointer (some ⟨g, 0, none⟩)] w fun e w' => Y5 w g r.end_ e w' := by
 have c1 := h.c1
 have hsz := size_str r.rest
 unfold Rd.end_
 by_cases he : 0 < r.rest.length
 ·rw [if_pos he]
  have hd : (0 : Int) < (r.rest.length : Int) := by omega
  clear he
  go_enter Tryz.func59, Tryz.ntmps59
  go_wp2_with fail
  refine (IK _ g r 4 h).mono ?_; rintro e w3 ⟨⟨v, rfl⟩, hgo4⟩
  have c0 := hgo4.1.c0
  go_wp2_with fail
  go_ret
  exact ⟨rfl, hgo4⟩
 ·rw [if_neg he]
  have hd : ¬ (0 : Int) < (r.rest.length : Int) := by omega
  have c0 := h.c0
  clear he
  have H := Lib.hid h.go
  go_enter Tryz.func59, Tryz.ntmps59
  go_wp2_with fail
  go_ret
  exact ⟨rfl, H.out⟩
end Go.Proofs.YteiaiilfekojfaaGreat.Wire
end
section
namespace Go.Proofs.YteiaiilfekojfaaGreat.Wire
open Go.RowKit

theorem Ih {P : Program} {w : World} {src dst e : TypeId} (hs : P.underlying src = some (.slice e)) (he : P.underlying e = some (.int .u8)) (hd : P.underlying dst = some .string)
  {B : Nat} {A : Option Addr} {n : Nat} {l : List UInt8} (c : Nat) (hr : Reads w B 1 A n (bv l)) :
  (convert src dst (.slice A n c)).run P w = .ok (.string ⟨l.toArray⟩) w := by
 have hn : l.length = n := by have := hr.1; rw [O6] at this; omega
 rcases A with _ | ad
 ·have h0 : n = 0 := by
   rcases Nat.eq_zero_or_pos n with h0 | h0
   ·exact h0
   ·obtain ⟨ad, h, _⟩ := hr.2 h0
    cases h
  obtain rfl : l = [] := List.eq_nil_of_length_eq_zero (by omega)
  exact run_convert_bytes_nil w src e hs he n c dst hd
 ·have hl : (loadCells ad n).run P w = .ok ((l.map fun b => (b.toNat : Int)).map (Value.int .u8)).toArray w := by
   have := run_loadCells_list (P := P) w ad ((l.map fun b => (b.toNat : Int)).map (Value.int .u8)) (fun j v hj => by
    rw [List.map_map] at hj
    have hjn : j < n := by
     have := (List.getElem?_eq_some_iff.1 hj).1
     simp at this; omega
    obtain ⟨ad', h1, _, h2⟩ := hr.2 (by omega)
    cases h1
    exact h2 j v hj)
   simpa [hn] using this
  rw [run_convert_bytes_string w src dst e _ n c hs he hd, run_bytesToString w _ n c _ hl, foldl_push_bytes]
  congr 2
  simp [ByteArray.empty, ByteArray.emptyWithCapacity, Function.comp_def]
  rfl

theorem WB (w : World) (r : Rd) : RdAt (w.alloc (.cells (rdC r) 157)) w.heap.size r := Blk.new w _ _
theorem Jc {w w' : World} {g B : Nat} (h : w.grownBy w' (some g)) (hg : B ≤ g) (hB : B ≤ w.heap.size) : Below B w w' :=
 (Below.refl B w).grown h hB (fun k hk => by cases hk; exact hg)

theorem Ya {g : Nat} {r : Rd} {p : Nat × Rd} (e : r.num = p) (hl : r.rest.length < 4611686018427387904) (w : World) (h : RdAt w g r) :
  Calls Tryz.prog 140 #[.pointer (some ⟨g, 0, none⟩)] w fun e w' => Md w g p e w' := e ▸ OX g r hl w h
theorem QS {g : Nat} {r : Rd} {m : Int} {p : List UInt8 × Rd} (e : r.str m = p) (h1 : -9223372036854775808 ≤ m) (h2 : m ≤ 9223372036854775807) (hl : r.rest.length < 4611686018427387904) (w : World) (h : RdAt w g r) :
  Calls Tryz.prog 124 #[.pointer (some ⟨g, 0, none⟩), .int .i64 m] w fun e w' => WH w g p e w' := e ▸ S8 g r m h1 h2 hl w h
def Y3 (w w' : World) (e : Ending) (l : List UInt8) : Prop :=
 ∃ A c, e = .returned (.slice A l.length c) ∧ Reads w' w'.heap.size 1 A l.length (bv l) ∧ Below w.heap.size w w'
theorem RetB.s {w w' : World} {e : Ending} {l : List UInt8} (h : RetB w w' e l) : Y3 w w' e l := by
 obtain ⟨v, rfl, hown, hB⟩ := h
 obtain ⟨A, c, rfl, hr⟩ := DG hown
 exact ⟨A, c, rfl, hr, hB⟩
end Go.Proofs.YteiaiilfekojfaaGreat.Wire
end
section
namespace Go.Proofs.YteiaiilfekojfaaGreat.Wire
open Go.RowKit

theorem FQ {w : World} {base : Nat} (t : TypeId) (v : Value) (hb : base ≤ w.heap.size) : (w.alloc (.cells #[v] t)).ownsRow base t 1 (.slice (some ⟨w.heap.size, 0, none⟩) 1 1) 1 [v] :=
 ⟨rfl, .inr ⟨w.heap.size, 1, #[v], rfl, hb, heap_alloc_new w _, Nat.le_refl _, by decide, rfl, rfl⟩⟩
theorem Nu {w w1 : World} {base : Nat} {v : Value} {t : TypeId} (hB : base ≤ w.heap.size) (hg : (w.alloc (.cells #[v] t)).grownBy w1 (some w.heap.size)) {w0 : World} (h : Below base w0 w) : Below base w0 w1 :=
 (h.alloc hB _).grown hg (by simp; omega) (fun k hk => by cases hk; exact hB)

def YK (x : Nat) (w : World) (nv v : Value) (wr : World) : Prop :=
 ∃ j m : Nat, Hid (m = x / 256 ^ j) ∧ m < 18446744073709551616 ∧ j ≤ 8 ∧ Hid (j = 0 ∨ 256 ^ (j - 1) ≤ x) ∧ nv = .int .u64 (m : Int) ∧ wr.ownsRow w.heap.size 5 1 v j (bv (beB j x)) ∧ Below w.heap.size w wr
theorem Wp {x j m : Nat} (hx : x < 18446744073709551616) (h : Hid (m = x / 256 ^ j)) (h0 : 0 < m) : j + 1 ≤ 8 ∧ Hid (m / 256 = x / 256 ^ (j + 1)) ∧ Hid (j + 1 = 0 ∨ 256 ^ (j + 1 - 1) ≤ x) ∧ m / 256 < 18446744073709551616 := by
 have h1 := h.out
 have hp : 0 < 256 ^ j := Nat.pow_pos (by omega)
 have hle : 256 ^ j ≤ x := by
  rcases Nat.lt_or_ge x (256 ^ j) with hl | hl
  ·rw [Nat.div_eq_of_lt hl] at h1; omega
  ·exact hl
 have h8 : (256 : Nat) ^ 8 = 18446744073709551616 := by decide
 refine ⟨?_, ?_, .inr hle, ?_⟩
 ·have hlt : 256 ^ j < 256 ^ 8 := by omega
  exact (Nat.pow_lt_pow_iff_right (a := 256) (by omega)).1 hlt
 ·show _ = _
  rw [h1, Nat.pow_succ, ← Nat.div_div_eq_div_mul]
 ·have : x / 256 ^ j ≤ x := Nat.div_le_self _ _
  omega
theorem Wq {x j : Nat} (hx : x < 18446744073709551616) (hx8 : 248 ≤ x) (h : Hid (0 = x / 256 ^ j)) (hj : Hid (j = 0 ∨ 256 ^ (j - 1) ≤ x)) : Di x = j := by
 have h1 := h.out
 have hp : 0 < 256 ^ j := Nat.pow_pos (by omega)
 have hlt : x < 256 ^ j := by
  rcases Nat.lt_or_ge x (256 ^ j) with hl | hl
  ·exact hl
  ·have := Nat.div_pos hl hp; omega
 rcases hj.out with h0 | hle
 ·subst h0; simp at hlt; omega
 ·rcases Nat.eq_zero_or_pos j with h0 | h0
  ·subst h0; simp at hlt; omega
  ·exact OG x j (by omega) hx (by omega) hle hlt
theorem Wx (m : Nat) : Value.int .u8 ((m : Int) % 256) = NI (UInt8.ofNat m) := by
 unfold NI
 rw [UInt8.toNat_ofNat']
 rfl
theorem Xo (m : Nat) : ((m : Int) / 256) = ((m / 256 : Nat) : Int) := by omega

def Mc (w : World) (l : List UInt8) (e : Ending) (w' : World) : Prop := e = .returned (.string ⟨l.toArray⟩) ∧ Below w.heap.size w w'
set_option maxRecDepth 100000 in
set_option maxHeartbeats 4000000 in
theorem DD (x : Nat) (hx : x < 18446744073709551616) (w : World) :
  Calls Tryz.prog 52 #[.int .u64 (x : Int)] w fun e w' => Mc w (BI x) e w' := by
 obtain ⟨i0, hi, hz0, hz1, hz2⟩ := info_parts Hq
 by_cases h8 : x < 248
 ·have hr : Reads (w.alloc (.cells #[.int .u8 (x : Int)] 5)) (w.alloc (.cells #[.int .u8 (x : Int)] 5)).heap.size 1 (some ⟨w.heap.size, 0, none⟩) 1 (bv [UInt8.ofNat x]) := by
   have h := Reads.of_own (FQ (w := w) 5 (.int .u8 (x : Int)) (Nat.le_refl _))
   have e : bv [UInt8.ofNat x] = [.int .u8 (x : Int)] := by
    show [Value.int .u8 ((UInt8.ofNat x).toNat : Int)] = _
    rw [UInt8.toNat_ofNat', Nat.mod_eq_of_lt (by omega)]
   rw [e]; exact h
  have hcv := Ih Tryz.underlying103 Tryz.underlying5 Tryz.underlying9 1 hr
  have e1 : Hid (BI x = [UInt8.ofNat x]) := by show _ = _; unfold BI; rw [if_pos h8]
  clear hr
  go_enter Tryz.func52, Tryz.ntmps52
  go_wp2
  go_ret
  rw [e1.out]
  exact ⟨rfl, (Below.refl _ w).alloc (Nat.le_refl _) _⟩
 ·go_enter Tryz.func52, Tryz.ntmps52
  go_wp2_with fail
  go_loopw [0, 3] (fun n v wr => YK x w n v wr) (fun n _ _ => (intOf n).toNat)
  case atStart => exact ⟨0, x, by show x = x / 256 ^ 0; simp, hx, by omega, .inl rfl, rfl, World.ownsRow_nil _ _ _ _, Below.refl _ _⟩
  case round =>
   obtain ⟨j, m, hm, hm64, hj, hjx, rfl, hown, hB⟩ := hrel
   by_cases h0 : 0 < m
   ·obtain ⟨n1, n2, n3, n4⟩ := Wp hx hm h0
    obtain ⟨A, c, rfl, hr⟩ := DG hown
    have hn := FQ (w := wr) (base := wr.heap.size) 5 (.int .u8 ((m : Int) % 256)) (Nat.le_refl _)
    have hra := (hr.alloc (Nat.le_refl _) (.cells #[.int .u8 ((m : Int) % 256)] 5))
    have hbo := NJ (beB j x)
    have hh := Lib.hid (Xo m)
    clear hown hr
    go_wp2_with (at_builtin; go_must (refine Ej _ rfl (.tmp 15) (.tmp 16) _ rfl w.heap.size 5 i0 (.int .u8 0) 1 1 Tryz.underlying103 hi hz0 hz1 hz2 rfl (by omega) (.slice (some ⟨wr.heap.size, 0, none⟩) 1 1) 1 [.int .u8 ((m : Int) % 256)] rfl (FQ _ _ hB.size) wr.heap.size A j c (bv (beB j x)) rfl hra hbo (by simp only [maxLen]; omega) (by omega) (by have := hB.size; simp; omega) ?_); intro v1 w1 hown1 hg1 hat1)
    have hB1 := Nu hB.size hg1 hB
    refine ⟨⟨j + 1, m / 256, n2, n4, n1, n3, by rw [hh.out], ?_, hB1⟩, by simp [intOf]; omega⟩
    rw [beB, ← hm.out]
    rw [Wx, Nat.add_comm] at hown1
    exact hown1
   ·obtain rfl : m = 0 := by omega
    have hw := Wq hx (by omega) hm hjx
    have e1 : Hid (bv (BI x) = [Value.int .u8 (247 + (j : Int))] ++ bv (beB j x)) := by
     show _ = _
     unfold BI
     rw [if_neg h8, hw]
     show Value.int .u8 ((UInt8.ofNat (247 + j)).toNat : Int) :: _ = _
     rw [UInt8.toNat_ofNat', Nat.mod_eq_of_lt (by omega)]
     rfl
    obtain ⟨A, c, rfl, hr⟩ := DG hown
    have hra := (hr.alloc (Nat.le_refl _) (.cells #[.int .u8 (247 + (j : Int))] 5))
    have hbo := NJ (beB j x)
    clear hown hr hw
    go_wp2_with (at_builtin; go_must (refine Ej _ rfl (.tmp 24) (.tmp 25) _ rfl w.heap.size 5 i0 (.int .u8 0) 1 1 Tryz.underlying103 hi hz0 hz1 hz2 rfl (by omega) (.slice (some ⟨wr.heap.size, 0, none⟩) 1 1) 1 [.int .u8 (247 + (j : Int))] rfl (FQ _ _ hB.size) wr.heap.size A j c (bv (beB j x)) rfl hra hbo (by simp only [maxLen]; omega) (by omega) (by have := hB.size; simp; omega) ?_); intro v1 w1 hown1 hg1 hat1; have hB1 := Nu hB.size hg1 hB; obtain ⟨A1, c1, rfl, hr1⟩ := DG hown1; have hcv := Ih (l := BI x) Tryz.underlying103 Tryz.underlying5 Tryz.underlying9 c1 (by rw [e1.out]; exact hr1); clear hown1 hg1 hat1 hr1)
    go_ret
    exact ⟨rfl, hB1⟩

theorem I0 (a b : List UInt8) : (ByteArray.mk a.toArray) ++ (ByteArray.mk b.toArray) = ByteArray.mk (a ++ b).toArray := by
 apply ByteArray.ext
 rw [ByteArray.data_append]
 simp
theorem Fj (s : List UInt8) (hs : s.length ≤ 1000000000) (w : World) :
  Calls Tryz.prog 54 #[.string ⟨s.toArray⟩] w fun e w' => Mc w (CM s) e w' := by
 have hsz : (ByteArray.mk s.toArray).size = s.length := by simp [ByteArray.size]
 have ha := I0 (BI s.length) s
 have hn9 := (B0 s.length (by omega)).1
 go_enter Tryz.func54, Tryz.ntmps54
 go_wp2_with fail
 refine (DD s.length (by omega) _).mono ?_; rintro e w1 ⟨rfl, hB⟩
 go_wp2_with fail
 go_ret
 exact ⟨rfl, hB⟩
end Go.Proofs.YteiaiilfekojfaaGreat.Wire
end
section
namespace Go.Proofs.YteiaiilfekojfaaGreat
open Go.RowKit

theorem LZ (w : World) (a : Obj) : Below w.heap.size w (w.alloc a) := (Below.refl _ w).alloc (Nat.le_refl _) a
structure Kg (L : List (Nat × TypeId × Array Value)) (w W : World) : Prop where
 bw : Below w.heap.size w W
 at_ : ∀ p ∈ L, Blk W p.1 p.2.1 p.2.2
section
variable {a b c d e : Nat × TypeId × Array Value} {L : List (Nat × TypeId × Array Value)} {w W W' : World}
theorem Kg.refl (w : World) : Kg [] w w := ⟨Below.refl _ w, by simp⟩
theorem Kg.below (k : Kg L w W) (hb : Below W.heap.size W W') : Kg L w W' where
 bw := k.bw.trans (hb.mono k.bw.size)
 at_ := fun p hp => (k.at_ p hp).below hb (k.at_ p hp).lt
theorem Kg.alloc (k : Kg L w W) (o : Obj) : Kg L w (W.alloc o) := k.below (LZ W o)
theorem Kg.drew (k : Kg L w W) : Kg L w W.drew := ⟨k.bw.drew, fun p hp => (k.at_ p hp).drew⟩
theorem Kg.new (k : Kg L w W) (t : TypeId) (cs : Array Value) : Kg ((W.heap.size, t, cs) :: L) w (W.alloc (.cells cs t)) where
 bw := (k.alloc _).bw
 at_ := by
  intro p hp
  rcases List.mem_cons.1 hp with rfl | hp
  ·exact Blk.new W _ cs
  ·exact (k.at_ p hp).alloc _
theorem Kg.tail (k : Kg (a :: L) w W) : Kg L w W := ⟨k.bw, fun p hp => k.at_ p (List.mem_cons_of_mem _ hp)⟩
theorem Kg.i1 (k : Kg (a :: L) w W) : Blk W a.1 a.2.1 a.2.2 := k.at_ a (by simp)
theorem Kg.i3 (k : Kg (c :: b :: a :: L) w W) : Blk W a.1 a.2.1 a.2.2 := k.at_ a (by simp)
theorem Kg.cons (k : Kg L w W) (h : Blk W a.1 a.2.1 a.2.2) : Kg (a :: L) w W := ⟨k.bw, fun p hp => by
 rcases List.mem_cons.1 hp with rfl | hp
 ·exact h
 ·exact k.at_ p hp⟩
theorem Kg.grown {row : Option Nat} (k : Kg L w W) (hg : W.grownBy W' row) (hr : ∀ o, row = some o → w.heap.size ≤ o ∧ ∀ p ∈ L, p.1 ≠ o) : Kg L w W' where
 bw := k.bw.grown hg k.bw.size (fun o ho => (hr o ho).1)
 at_ := fun p hp => (k.at_ p hp).grown hg (fun e => (hr p.1 e.symm).2 p hp rfl)
theorem Kg.set_ {g i : Nat} {t : TypeId} {cs : Array Value} (k : Kg ((g, t, cs) :: L) w W) (hne : ∀ p ∈ L, p.1 ≠ g) (hw : w.heap.size ≤ g) (u : Value) : Kg ((g, t, cs.setIfInBounds i u) :: L) w (W.setCell ⟨g, i, none⟩ u) where
 bw := k.bw.setCell (p := ⟨g, i, none⟩) hw u
 at_ := by
  intro p hp
  rcases List.mem_cons.1 hp with rfl | hp
  ·exact k.i1.set_ i u
  ·exact (k.at_ p (List.mem_cons_of_mem _ hp)).far (p := ⟨g, i, none⟩) (hne p hp) u
end
theorem Blk.c2 {w : World} {g : Nat} {t : TypeId} {c0 c1 : Value} (h : Blk w g t #[c0, c1]) : w.cell? ⟨g, 0, none⟩ = some c0 ∧ w.cell? ⟨g, 1, none⟩ = some c1 := ⟨h.cell 0, h.cell 1⟩
theorem Blk.f2 {w : World} {g : Nat} {t : TypeId} {cs : Array Value} (h : Blk w g t cs) : w.frozen? ⟨g, 0, none⟩ = false ∧ w.frozen? ⟨g, 1, none⟩ = false := ⟨h.frozen 0, h.frozen 1⟩
theorem Blk.c12 {w : World} {g : Nat} {t : TypeId} {c0 c1 c2 c3 c4 c5 c6 c7 c8 c9 c10 c11 : Value} (h : Blk w g t #[c0, c1, c2, c3, c4, c5, c6, c7, c8, c9, c10, c11]) :
  w.cell? ⟨g, 0, none⟩ = some c0 ∧ w.cell? ⟨g, 1, none⟩ = some c1 ∧ w.cell? ⟨g, 2, none⟩ = some c2 ∧ w.cell? ⟨g, 3, none⟩ = some c3 ∧ w.cell? ⟨g, 4, none⟩ = some c4 ∧ w.cell? ⟨g, 5, none⟩ = some c5 ∧ w.cell? ⟨g, 6, none⟩ = some c6 ∧ w.cell? ⟨g, 7, none⟩ = some c7 ∧ w.cell? ⟨g, 8, none⟩ = some c8 ∧ w.cell? ⟨g, 9, none⟩ = some c9 ∧ w.cell? ⟨g, 10, none⟩ = some c10 ∧ w.cell? ⟨g, 11, none⟩ = some c11 :=
 ⟨h.cell 0, h.cell 1, h.cell 2, h.cell 3, h.cell 4, h.cell 5, h.cell 6, h.cell 7, h.cell 8, h.cell 9, h.cell 10, h.cell 11⟩
end Go.Proofs.YteiaiilfekojfaaGreat
end
section
namespace Go.Proofs.YteiaiilfekojfaaGreat.Wire
open Go.RowKit

theorem LD {P : Program} {w : World} {o : Oper} {a : Act} {K : Act → World → Prop} {Q : Exit → Act → World → Prop} {src dst e : TypeId}
  (hs : P.underlying src = some (.slice e)) (he : P.underlying e = some (.int .u8)) (hd : P.underlying dst = some .string)
  {B : Nat} {A : Option Addr} {n c : Nat} {l : List UInt8} (hr : Reads w B 1 A n (bv l)) (h : K (a.put o.dst (.string ⟨l.toArray⟩)) w) :
  Oper.upon P o a K Q ((Sem.run P (convert src dst (.slice A n c)) w).andThen fun a w' => Result.ok (Next.value a) w') := by
 rw [Ih hs he hd c hr]
 exact h

theorem IG (W : World) {r : Nat} (hb : r < 256) : Reads (W.alloc (.cells #[.int .u8 (r : Int)] 5)) (W.alloc (.cells #[.int .u8 (r : Int)] 5)).heap.size 1 (some ⟨W.heap.size, 0, none⟩) 1 (bv [UInt8.ofNat r]) := by
 have hv : bv [UInt8.ofNat r] = [.int .u8 (r : Int)] := by
  show [Value.int .u8 ((UInt8.ofNat r).toNat : Int)] = _
  rw [UInt8.toNat_ofNat', Nat.mod_eq_of_lt (by omega)]
 rw [hv]
 exact Reads.of_own (FQ (base := 0) 5 _ (Nat.zero_le _))
theorem Rm (w : World) (o : Obj) {r : Nat} (hb : r < 256) : Reads ((w.alloc o).alloc (.cells #[.int .u8 (r : Int)] 5)) ((w.alloc o).alloc (.cells #[.int .u8 (r : Int)] 5)).heap.size 1 (some ⟨w.heap.size + 1, 0, none⟩) 1 (bv [UInt8.ofNat r]) := by
 have h := IG (w.alloc o) hb
 have e : (w.alloc o).heap.size = w.heap.size + 1 := by simp
 rw [e] at h
 exact h
end Go.Proofs.YteiaiilfekojfaaGreat.Wire
end
section
set_option linter.unusedVariables false
set_option linter.unusedSimpArgs false
namespace Go.Proofs.YteiaiilfekojfaaGreat.Sx
open Go.RowKit DrawInv Wire
section
variable {P : Program} {ρ : Operand → Value} {o : Oper} {w : World} {vs : Vs}
def RowC (w : World) (g : Nat) (cs : List Value) : Prop := ∃ full e m, w.heap[g]? = some (.cells full e m) ∧ ∀ j v, cs[j]? = some v → full[j]? = some v ∧ (j < m.1 ∨ m.2 ≤ j)
theorem RowC.cell {g : Nat} {cs : List Value} (h : RowC w g cs) {j : Nat} {v : Value} (hv : cs[j]? = some v) : w.cell? ⟨g, j, none⟩ = some v := by
 obtain ⟨full, e, m, h1, h2⟩ := h
 unfold World.cell?
 rw [h1]
 exact (h2 j v hv).1
theorem RowC.frozen {g : Nat} {cs : List Value} (h : RowC w g cs) {j : Nat} {v : Value} (hv : cs[j]? = some v) : w.frozen? ⟨g, j, none⟩ = false := by
 obtain ⟨full, e, ⟨m1, m2⟩, h1, h2⟩ := h
 unfold World.frozen?
 rw [h1]
 have := (h2 j v hv).2
 simp
 omega
theorem RowC.lt {g : Nat} {cs : List Value} (h : RowC w g cs) : g < w.heap.size := by obtain ⟨full, e, m, h1, _⟩ := h; exact (Array.getElem?_eq_some_iff.1 h1).1
theorem RowC.reads {g n : Nat} {cs : List Value} (h : RowC w g cs) (hn : cs.length = n) : Reads w w.heap.size 1 (some ⟨g, 0, none⟩) n cs :=
 ⟨by rw [hn, Nat.mul_one], fun _ => ⟨_, rfl, h.lt, fun j u hu => by rw [Gj, Nat.zero_add]; exact h.cell hu⟩⟩
theorem RowC.at {g : Nat} {cs : List Value} (h : RowC w g cs) {k : Nat} {v : Value} (hv : cs[k]? = some v) : RowAt w ((⟨g, 0, none⟩ : Addr).add (k * 1)) [v] := fun j u hu => by
 have hj : j = 0 := by have := (List.getElem?_eq_some_iff.1 hu).1; simp at this; omega
 subst hj
 obtain rfl : v = u := by simpa using hu
 rw [Gj, Gj, Nat.zero_add, Nat.mul_one, Nat.add_zero]
 exact h.cell hv
theorem RowC.set {g k : Nat} {cs : List Value} (h : RowC w g cs) (v : Value) : RowC (w.setCell ⟨g, k, none⟩ v) g (cs.set k v) := by
 obtain ⟨full, e, m, h1, h2⟩ := h
 refine ⟨full.setIfInBounds k v, e, m, ?_, fun j u hu => ?_⟩
 ·unfold World.setCell
  simp [Array.getElem?_modify, h1]
 ·rw [List.getElem?_set] at hu
  by_cases hk : k = j
  ·subst hk
   by_cases hl : k < cs.length
   ·rw [if_pos rfl, if_pos hl] at hu
    obtain ⟨h3, h4⟩ := h2 k cs[k] (List.getElem?_eq_getElem hl)
    have hlt : k < full.size := (Array.getElem?_eq_some_iff.1 h3).1
    rw [← hu]
    exact ⟨by rw [Array.getElem?_setIfInBounds_self_of_lt hlt], h4⟩
   ·rw [if_pos rfl, if_neg hl] at hu; cases hu
  ·rw [if_neg hk] at hu
   obtain ⟨h3, h4⟩ := h2 j u hu
   exact ⟨by rw [Array.getElem?_setIfInBounds_ne hk]; exact h3, h4⟩
theorem Pi {t e : TypeId} {x y : Operand} {k k' : IntKind} {z : Int} {n b : Nat} {v : Value} {vs : Vs} (E : Env vs ρ) (ho : o.op = .makeSlice t x y) (ht : P.underlying t = some (.slice e)) (hi : (P.info? e).map (fun i => (i.zero, i.size, i.bytes)) = some (some v, 1, b)) (hx : opv vs x = some (.int k z)) (hy : opv vs y = some (.int k' z)) (hz : z = (n : Int)) (hsm : n * 1 ≤ 16777216) (hb : b * n ≤ 281474976710656) (hm : n ≤ 9223372036854775807) (h1 : v.cells = #[v]) :
  ∃ w', (execOp ρ o).run P w = .ok (.value (.slice (some ⟨w.heap.size, 0, none⟩) n n)) w' ∧ w'.ownsRow w.heap.size e 1 (.slice (some ⟨w.heap.size, 0, none⟩) n n) n (List.replicate n v) ∧ Below w.heap.size w w' := by
 subst hz
 obtain ⟨i, h2, h3, h4, h5⟩ := info_parts hi
 obtain ⟨w', hr, hown, hg⟩ := run_makeSlice_full (P := P) w w.heap.size t e i v 1 ht h2 h3 h4 k k' n hsm (by rw [h5]; exact hb) (by unfold maxLen; omega) (Nat.le_refl _)
 refine ⟨w', ?_, ?_, ⟨hg.os, hg.tape, hg.output, hg.size, fun k hk => hg.block k hk (by simp)⟩⟩
 ·unfold execOp; rw [ho]
  simp only [E.ev hx, E.ev hy, Sem.run_bind, hr, Result.andThen_ok]
  rfl
 ·have e1 : (madeCells v.cells (n * 1)).toList = List.replicate n v := by
   rw [h1]
   unfold madeCells
   refine List.ext_getElem (by simp) fun j hj hj2 => ?_
   simp [Nat.mod_one]
  rw [e1] at hown
  exact hown
end
section
variable {P : Program} {ops : Array Oper} {Q Q' : Exit → Act → World → Prop} {n : Nat} {vs : Vs} {w0 : World} {L : List Ft} {o : Oper} {rest : List Oper} {S : World → Prop} {fuel : Nat} {listed : Array Bool}
theorem QA {σ : Type} {d : Nat} (v : σ → Value) (F : σ → Prop) (L' : σ → List Ft) (hon : GOn ops vs o.guard) (hd : o.dst = some d) (hdn : Nat.blt d n = true)
  (hr : ∀ ρ w, Env vs ρ → Hp w0 L w → ∃ s w', (execOp ρ o).run P w = .ok (.value (v s)) w' ∧ F s ∧ Hp w0 (L' s) w')
  (h : ∀ s, F s → SxL P ops Q rest n ((d, v s) :: vs) w0 (L' s)) : SxL P ops Q (o :: rest) n vs w0 L := fun a w K H => by
 refine Hn (hon.on K.env) ?_
 unfold Oper.wp
 obtain ⟨s, w', hr, hF, H'⟩ := hr a.eval w K.env H
 rw [hr]
 show wpList P ops Q rest (a.put o.dst _) _
 rw [hd]
 exact h s hF _ _ (K.put hdn _) H'
theorem OE (L' : List Ft) (hon : GOn ops vs o.guard) (hd : o.dst = none) (hr : ∀ ρ w, Env vs ρ → Hp w0 L w → ∃ w', (execOp ρ o).run P w = .ok .skip w' ∧ Hp w0 L' w') (h : SxL P ops Q rest n vs w0 L') : SxL P ops Q (o :: rest) n vs w0 L := fun a w K H => by
 refine Hn (hon.on K.env) ?_
 unfold Oper.wp
 obtain ⟨w', hr, H'⟩ := hr a.eval w K.env H
 rw [hr]
 show wpList P ops Q rest (a.put o.dst _) _
 rw [hd]
 exact h _ _ K H'
theorem UT {i : Nat} {o : Oper} (L' : List Ft) (hi : ops[i]? = some o) (hon : GOn ops vs o.guard) (hd : o.dst = none) (hr : ∀ ρ w, Env vs ρ → Hp w0 L w → ∃ w', (execOp ρ o).run P w = .ok .skip w' ∧ Hp w0 L' w') (hS : ∀ w, Hp w0 L' w → S w)
  (h : SxA P ops Q S fuel (listed.setIfInBounds i true) n vs w0 L') : SxO P ops Q S fuel listed i n vs w0 L := fun a w K H _ => by
 refine M7 hi (hon.on K.env) ?_
 unfold Oper.wp
 obtain ⟨w', hr, H'⟩ := hr a.eval w K.env H
 rw [hr]
 show S _ ∧ wpAnyH _ _ _ _ _ _ _ (a.put o.dst _) _
 rw [hd]
 exact ⟨hS _ H', h _ _ K H' (hS _ H')⟩
theorem PH : ∀ (l pre rest : List Value), rest.length = l.length → FP (pre ++ rest) pre.length l = pre ++ l
 | [], pre, rest, h => by
  obtain rfl : rest = [] := List.eq_nil_of_length_eq_zero (by simpa using h)
  rfl
 | v :: l, pre, rest, h => by
  cases rest with
  | nil => cases h
  | cons r rest =>
   unfold FP
   have e : (pre ++ r :: rest).set pre.length v = (pre ++ [v]) ++ rest := by simp [List.set_append_right]
   have ih := PH l (pre ++ [v]) rest (by simpa using h)
   rw [List.length_append, List.length_singleton] at ih
   rw [e, ih]
   simp
theorem DF (l cs : List Value) (h : cs.length = l.length) : FP cs 0 l = l := PH l [] cs h
theorem NN {i g t m off : Nat} {u : TypeId} {cs : List Value} (cs' : List Value) {v : Value} {p x : Operand} (hon : GOn ops vs o.guard) (hd : o.dst = none) (ho : o.op = .store u p x) (hp : opv vs p = some (.pointer (some ⟨g, off, none⟩))) (hx : opv vs x = some v) (hi : nth L i = some (cell g t cs)) (hz : (P.info? u).map (·.size) = some m) (hm : v.cells.toList.length = m) (hl : Nat.ble (off + m) cs.length = true) (h1 : v.cells.toList.all (·.oneCell') = true) (hcs : FP cs off v.cells.toList = cs')
  (h : SxL P ops Q rest n vs w0 (putF L i (cell g t cs'))) : SxL P ops Q (o :: rest) n vs w0 L := by
 subst hcs
 exact Bz hon hd ho hp hx hi hz hm hl h1 h
theorem Dk {i j g t m off : Nat} {o : Oper} {u : TypeId} {cs : List Value} (cs' : List Value) {v : Value} {p x : Operand} (hi : ops[i]? = some o) (hon : GOn ops vs o.guard) (hd : o.dst = none) (ho : o.op = .store u p x) (hp : opv vs p = some (.pointer (some ⟨g, off, none⟩))) (hx : opv vs x = some v) (hj : nth L j = some (cell g t cs)) (hz : (P.info? u).map (·.size) = some m) (hm : v.cells.toList.length = m) (hl : Nat.ble (off + m) cs.length = true) (h1 : v.cells.toList.all (·.oneCell') = true) (hcs : FP cs off v.cells.toList = cs')
  (hS : ∀ w, Hp w0 (putF L j (cell g t cs')) w → S w) (h : SxA P ops Q S fuel (listed.setIfInBounds i true) n vs w0 (putF L j (cell g t cs'))) : SxO P ops Q S fuel listed i n vs w0 L := by
 subst hcs
 exact GK hi hon hd ho hp hx hj hz hm hl h1 hS h
theorem YF {d b m : Nat} {t e : TypeId} {x y : Operand} {k k' : IntKind} {z : Int} {v : Value} (hon : GOn ops vs o.guard) (hd : o.dst = some d) (hdn : Nat.blt d n = true) (ho : o.op = .makeSlice t x y) (ht : P.underlying t = some (.slice e)) (hi : (P.info? e).map (fun i => (i.zero, i.size, i.bytes)) = some (some v, 1, b)) (hx : opv vs x = some (.int k z)) (hy : opv vs y = some (.int k' z)) (hz : z = (m : Int)) (hsm : m * 1 ≤ 16777216) (hb : b * m ≤ 281474976710656) (hm : m ≤ 9223372036854775807) (h1 : v.cells = #[v])
  (h : ∀ g, OwnIn w0 [] (.slice (some ⟨g, 0, none⟩) m m) → SxL P ops Q rest n ((d, .slice (some ⟨g, 0, none⟩) m m) :: vs) w0 (BU [] w0.heap.size e 1 (.slice (some ⟨g, 0, none⟩) m m) m (List.replicate m v) :: L)) : SxL P ops Q (o :: rest) n vs w0 L :=
 QA (σ := Nat) (fun g => .slice (some ⟨g, 0, none⟩) m m) (fun g => OwnIn w0 [] (.slice (some ⟨g, 0, none⟩) m m)) (fun g => BU [] w0.heap.size e 1 (.slice (some ⟨g, 0, none⟩) m m) m (List.replicate m v) :: L) hon hd hdn (fun ρ w E H => by
  obtain ⟨w', hr, hown, hb⟩ := Pi (P := P) (w := w) E ho ht hi hx hy hz hsm hb hm h1
  refine ⟨w.heap.size, w', hr, fun g hg => .inr (Nat.le_trans H.os.size (BS hown g hg).1), H.add hb _ (BF _ _ _ _ _ _ _) (fun g hg => ⟨(BS hown g (by simpa [BU] using hg)).2, (BS hown g (by simpa [BU] using hg)).1⟩) (CY hown H.os.size)⟩) h
end
theorem GF {P : Program} {n : Nat} {vs : Vs} {fn : Func} {a : Act} {w : World} (K : Kn n vs a) {rs : List ResultVar} (l : List Value) (h : fn.results = rs.toArray) (hl : Nat.beq l.length 1 = false) (hv : Vr P vs w rs l) : (results fn a.tmps).run P w = .ok (.tuple l.toArray) w := by
 rw [Ja K l h hv, dif_neg]
 intro e
 have e2 : l.length = 1 := by simpa using e
 rw [e2] at hl
 cases hl
end Go.Proofs.YteiaiilfekojfaaGreat.Sx
end
section
set_option linter.unusedVariables false
namespace Go.Proofs.YteiaiilfekojfaaGreat.Sx
open Go.RowKit DrawInv

variable {P : Program} {ops : Array Oper} {Q Q' : Exit → Act → World → Prop} {n : Nat} {vs : Vs} {w0 : World} {L : List Ft} {o : Oper} {rest : List Oper} {S : World → Prop} {fuel : Nat} {listed : Array Bool}
def gOn (ops : Array Oper) (vs : Vs) : Option (Nat × Bool) → Bool
 | none => true
 | some (j, b) => match ops[j]? with
  | some oj => match oj.dst with
   | some dj => match look vs dj with
    | some (.bool c) => c == b
    | _ => false
   | none => false
  | none => false
def VW (ops : Array Oper) (vs : Vs) : Option (Nat × Bool) → Bool
 | none => false
 | some (j, b) => match ops[j]? with
  | some oj => match oj.dst with
   | some dj => match look vs dj with
    | some (.bool c) => c != b
    | some _ => true
    | none => false
   | none => false
  | none => false
theorem F5 {g : Option (Nat × Bool)} (h : gOn ops vs g = true) : GOn ops vs g := by
 cases g with
 | none => trivial
 | some p =>
  obtain ⟨j, b⟩ := p
  unfold gOn at h
  cases h1 : ops[j]? with
  | none => simp [h1] at h
  | some oj =>
   cases h2 : oj.dst with
   | none => simp [h1, h2] at h
   | some dj =>
    cases h3 : look vs dj with
    | none => simp [h1, h2, h3] at h
    | some v =>
     cases v <;> simp [h1, h2, h3] at h
     exact ⟨oj, dj, h1, h2, by rw [h3, h]⟩
theorem SS {g : Option (Nat × Bool)} (h : VW ops vs g = true) : GOff ops vs g := by
 cases g with
 | none => simp [VW] at h
 | some p =>
  obtain ⟨j, b⟩ := p
  unfold VW at h
  cases h1 : ops[j]? with
  | none => simp [h1] at h
  | some oj =>
   cases h2 : oj.dst with
   | none => simp [h1, h2] at h
   | some dj =>
    cases h3 : look vs dj with
    | none => simp [h1, h2, h3] at h
    | some v =>
     refine ⟨oj, dj, v, h1, h2, h3, fun e => ?_⟩
     subst e
     simp [h1, h2, h3] at h
theorem zq {x m : Nat} (h : m ≤ x) : ∀ g ∈ [x], m ≤ g := fun g hg => by rw [List.mem_singleton.1 hg]; exact h
theorem zh {x m : Nat} {p : Nat → Prop} (h : m ≤ x) : ∀ g ∈ [x], p g ∨ m ≤ g := fun g hg => by rw [List.mem_singleton.1 hg]; exact .inr h
theorem zi {x : Nat} {p q : Nat → Prop} (h : p x) : ∀ g ∈ [x], p g ∨ q g := fun g hg => by rw [List.mem_singleton.1 hg]; exact .inl h
theorem zj {l : List Nat} {p q : Nat → Prop} (h : ∀ g ∈ l, q g) : ∀ g ∈ l, p g ∨ q g := fun g hg => .inr (h g hg)
theorem gK {g : Option (Nat × Bool)} (h : gOn ops vs g = true) : GOn ops vs g := F5 h
theorem zI {α β γ : Type} {p : α → β → γ → Prop} : ∀ a b c, p a b c → p a b c := fun _ _ _ h => h
theorem zk {f : FuncId} {args : List Operand} {T : Array TypeId} {xs : List Value} (he : Enters P f) (e : (o.op, Nv vs args) = (Op.call { callee := .value (.func f), args := args.toArray, argTypes := T }, some xs)) : ∀ ρ w, Env vs ρ → (execOp ρ o).run P w = .ok (.enter f xs.toArray) w := by
 simp only [Prod.mk.injEq] at e
 exact fun ρ w E => Xt E he e.1 e.2
theorem zm {d : Nat} {x : Operand} {v : Value} (e : (gOn ops vs o.guard, o.dst, Nat.blt d n, o.op, opv vs x) = (true, some d, true, Op.move x, some v)) (h : SxL P ops Q rest n ((d, v) :: vs) w0 L) : SxL P ops Q (o :: rest) n vs w0 L := by
 simp only [Prod.mk.injEq] at e
 exact Ag (F5 e.1) e.2.1 e.2.2.1 (fun ρ w E H => Lq E e.2.2.2.1 e.2.2.2.2) h
theorem za {d : Nat} {x : Operand} {v : Value} (e : (gOn ops vs o.guard, o.dst, Nat.blt d n, o.op, opv vs x) = (true, some d, true, Op.assign x, some v)) (h : SxL P ops Q rest n ((d, v) :: vs) w0 L) : SxL P ops Q (o :: rest) n vs w0 L := by
 simp only [Prod.mk.injEq] at e
 exact Ag (F5 e.1) e.2.1 e.2.2.1 (fun ρ w E H => O0 E e.2.2.2.1 e.2.2.2.2) h
theorem zx {d i : Nat} {x : Operand} {l : List Value} {v : Value} (e : (gOn ops vs o.guard, o.dst, Nat.blt d n, o.op, opv vs x, l[i]?) = (true, some d, true, Op.extract x i, some (.tuple l.toArray), some v)) (h : SxL P ops Q rest n ((d, v) :: vs) w0 L) : SxL P ops Q (o :: rest) n vs w0 L := by
 simp only [Prod.mk.injEq] at e
 exact Ag (F5 e.1) e.2.1 e.2.2.1 (fun ρ w E H => RF E e.2.2.2.1 e.2.2.2.2.1 e.2.2.2.2.2) h
theorem zX (v : Value) {d i : Nat} {x : Operand} {l : List Value} (e : (gOn ops vs o.guard, o.dst, Nat.blt d n, o.op, opv vs x, l[i]?) = (true, some d, true, Op.extract x i, some (.tuple l.toArray), some v)) (h : SxL P ops Q rest n ((d, v) :: vs) w0 L) : SxL P ops Q (o :: rest) n vs w0 L := zx e h
theorem zp {d : Nat} {c x y : Operand} {t : Bool} {v : Value} (e : (gOn ops vs o.guard, o.dst, Nat.blt d n, o.op, opv vs c, opv vs (bif t then x else y)) = (true, some d, true, Op.pick c x y, some (.bool t), some v)) (h : SxL P ops Q rest n ((d, v) :: vs) w0 L) : SxL P ops Q (o :: rest) n vs w0 L := by
 simp only [Prod.mk.injEq] at e
 exact Ag (F5 e.1) e.2.1 e.2.2.1 (fun ρ w E H => Lo E e.2.2.2.1 e.2.2.2.2.1 e.2.2.2.2.2) h
theorem zl (i : Nat) {g off d : Nat} {t u : TypeId} {p : Operand} {cs : List Value} {v : Value} {D : TypeDesc} (hu : P.underlying t = some D) (e : (gOn ops vs o.guard, o.dst, Nat.blt d n, o.op, opv vs p, nth L i, D.isRow, cs[off]?) = (true, some d, true, Op.load t p, some (.pointer (some ⟨g, off, none⟩)), some (cell g u cs), false, some v)) (h : SxL P ops Q rest n ((d, v) :: vs) w0 L) : SxL P ops Q (o :: rest) n vs w0 L := by
 simp only [Prod.mk.injEq] at e
 exact Ag (F5 e.1) e.2.1 e.2.2.1 (fun ρ w E H => Dl E (H.get e.2.2.2.2.2.1) e.2.2.2.1 e.2.2.2.2.1 hu e.2.2.2.2.2.2.1 e.2.2.2.2.2.2.2) h
theorem zw (i : Nat) {g m d : Nat} {t u : TypeId} {p : Operand} {cs : List Value} {D : TypeDesc} (hu : P.underlying t = some D) (hz : (P.info? t).map (·.size) = some m) (e : (gOn ops vs o.guard, o.dst, Nat.blt d n, o.op, opv vs p, nth L i, D.isRow, cs.length) = (true, some d, true, Op.load t p, some (.pointer (some ⟨g, 0, none⟩)), some (cell g u cs), true, m)) (h : SxL P ops Q rest n ((d, .agg cs.toArray) :: vs) w0 L) : SxL P ops Q (o :: rest) n vs w0 L := by
 simp only [Prod.mk.injEq] at e
 exact Ag (F5 e.1) e.2.1 e.2.2.1 (fun ρ w E H => Iu E (H.get e.2.2.2.2.2.1) e.2.2.2.1 e.2.2.2.2.1 hu e.2.2.2.2.2.2.1 hz (by rw [List.drop_zero, ← e.2.2.2.2.2.2.2]; exact List.take_length) e.2.2.2.2.2.2.2) h
theorem zv (i : Nat) (part : List Value) {g off m d : Nat} {t u : TypeId} {p : Operand} {cs : List Value} {D : TypeDesc} (hu : P.underlying t = some D) (hz : (P.info? t).map (·.size) = some m) (e : (gOn ops vs o.guard, o.dst, Nat.blt d n, o.op, opv vs p, nth L i, D.isRow, part.length, (cs.drop off).take m) = (true, some d, true, Op.load t p, some (.pointer (some ⟨g, off, none⟩)), some (cell g u cs), true, m, part)) (h : SxL P ops Q rest n ((d, .agg part.toArray) :: vs) w0 L) : SxL P ops Q (o :: rest) n vs w0 L := by
 simp only [Prod.mk.injEq] at e
 obtain ⟨e1, e2, e3, e4, e5, e6, e7, e8, e9⟩ := e
 exact Ag (F5 e1) e2 e3 (fun ρ w E H => Iu E (H.get e6) e4 e5 hu e7 hz e9 e8) h
theorem zf (j : Nat) {s f off d g i : Nat} {x : Operand} (hf : fieldAt P s f off) (e : (gOn ops vs o.guard, o.dst, Nat.blt d n, o.op, opv vs x, i + off) = (true, some d, true, Op.fieldAddr s x f, some (.pointer (some ⟨g, i, none⟩)), j)) (h : SxL P ops Q rest n ((d, .pointer (some ⟨g, j, none⟩)) :: vs) w0 L) : SxL P ops Q (o :: rest) n vs w0 L := by
 simp only [Prod.mk.injEq] at e
 exact Ag (F5 e.1) e.2.1 e.2.2.1 (fun ρ w E H => ND E e.2.2.2.1 hf e.2.2.2.2.1 e.2.2.2.2.2) h
theorem zo {d : Nat} (e : (VW ops vs o.guard, o.dst, Nat.blt d n) = (true, some d, true)) (h : SxL P ops Q rest n ((d, undef) :: vs) w0 L) : SxL P ops Q (o :: rest) n vs w0 L := by
 simp only [Prod.mk.injEq] at e
 exact XG (SS e.1) e.2.1 e.2.2 h
theorem zc (t : Bool) {d : Nat} {op : BinOp} {T U : TypeId} {x y : Operand} {k : IntKind} {a b : Int} (e : (gOn ops vs o.guard, o.dst, Nat.blt d n, o.op, SN op, opv vs x, opv vs y) = (true, some d, true, Op.binOp op T x y U, true, some (.int k a), some (.int k b))) (ht : AB op a b = t) (h : SxL P ops Q rest n ((d, .bool t) :: vs) w0 L) : SxL P ops Q (o :: rest) n vs w0 L := by
 simp only [Prod.mk.injEq] at e
 exact Ag (F5 e.1) e.2.1 e.2.2.1 (fun ρ w E H => E9 E e.2.2.2.1 e.2.2.2.2.1 e.2.2.2.2.2.1 e.2.2.2.2.2.2 ht) h
theorem zb {d : Nat} {op : BinOp} {T U : TypeId} {x y : Operand} {k : IntKind} {a b : Int} (e : (gOn ops vs o.guard, o.dst, Nat.blt d n, o.op, SN op, opv vs x, opv vs y) = (true, some d, true, Op.binOp op T x y U, true, some (.int k a), some (.int k b))) (h : ∀ t, AB op a b = t → SxL P ops Q rest n ((d, .bool t) :: vs) w0 L) : SxL P ops Q (o :: rest) n vs w0 L := by
 simp only [Prod.mk.injEq] at e
 exact DT (F5 e.1) e.2.1 e.2.2.1 (fun ρ w E H => E9 E e.2.2.2.1 e.2.2.2.2.1 e.2.2.2.2.2.1 e.2.2.2.2.2.2 rfl) h
theorem zn (u : Bool) {d : Nat} {T : TypeId} {x : Operand} {t : Bool} (e : (gOn ops vs o.guard, o.dst, Nat.blt d n, o.op, opv vs x, !t) = (true, some d, true, Op.unOp .not T x, some (.bool t), u)) (h : SxL P ops Q rest n ((d, .bool u) :: vs) w0 L) : SxL P ops Q (o :: rest) n vs w0 L := by
 simp only [Prod.mk.injEq] at e
 obtain ⟨e1, e2, e3, e4, e5, rfl⟩ := e
 exact Ag (F5 e1) e2 e3 (fun ρ w E H => Jf E e4 e5) h
theorem zL {d m c : Nat} {A : Option Addr} {t u : TypeId} {x : Operand} (ht : P.underlying t = some (.slice u)) (e : (gOn ops vs o.guard, o.dst, Nat.blt d n, o.op, opv vs x) = (true, some d, true, Op.call { callee := .builtin .len, args := #[x], argTypes := #[t] }, some (.slice A m c))) (h : SxL P ops Q rest n ((d, .int .i64 (m : Int)) :: vs) w0 L) : SxL P ops Q (o :: rest) n vs w0 L := by
 simp only [Prod.mk.injEq] at e
 exact Ag (F5 e.1) e.2.1 e.2.2.1 (fun ρ w E H => Hr E e.2.2.2.1 ht e.2.2.2.2) h
theorem zA {d : Nat} {t : TypeId} {z : Value} {cs : List Value} (hz : (P.info? t).bind (·.zero) = some z) (e : (gOn ops vs o.guard, o.dst, Nat.blt d n, o.op, z.cells) = (true, some d, true, Op.alloc t, cs.toArray)) (h : ∀ g, w0.heap.size ≤ g → SxL P ops Q rest n ((d, .pointer (some ⟨g, 0, none⟩)) :: vs) w0 (cell g t cs :: L)) : SxL P ops Q (o :: rest) n vs w0 L := by
 simp only [Prod.mk.injEq] at e
 exact Tv (F5 e.1) e.2.1 e.2.2.1 (fun ρ w E H => We e.2.2.2.1 hz e.2.2.2.2) h
theorem zB {d : Nat} {t : TypeId} {x : Operand} {v : Value} {cs : List Value} (e : (gOn ops vs o.guard, o.dst, Nat.blt d n, o.op, opv vs x, v.cells) = (true, some d, true, Op.box t x, some v, cs.toArray)) (h : ∀ g, w0.heap.size ≤ g → SxL P ops Q rest n ((d, .pointer (some ⟨g, 0, none⟩)) :: vs) w0 (cell g t cs :: L)) : SxL P ops Q (o :: rest) n vs w0 L := by
 simp only [Prod.mk.injEq] at e
 exact Tv (F5 e.1) e.2.1 e.2.2.1 (fun ρ w E H => Yn E e.2.2.2.1 e.2.2.2.2.1 e.2.2.2.2.2) h
theorem zE (cs : List Value) {d : Nat} {t : TypeId} {x : Operand} {v : Value} (e : (gOn ops vs o.guard, o.dst, Nat.blt d n, o.op, opv vs x, v.cells) = (true, some d, true, Op.box t x, some v, cs.toArray)) (h : ∀ g, w0.heap.size ≤ g → SxL P ops Q rest n ((d, .pointer (some ⟨g, 0, none⟩)) :: vs) w0 (cell g t cs :: L)) : SxL P ops Q (o :: rest) n vs w0 L := zB e h
theorem zS (i : Nat) {g t m : Nat} {u : TypeId} {cs l : List Value} {p x : Operand} (hz : (P.info? u).map (·.size) = some m) (e : (gOn ops vs o.guard, o.dst, o.op, opv vs p, opv vs x, nth L i, l.length, cs.length, l.all (·.oneCell')) = (true, none, Op.store u p x, some (.pointer (some ⟨g, 0, none⟩)), some (.agg l.toArray), some (cell g t cs), m, m, true)) (h : SxL P ops Q rest n vs w0 (putF L i (cell g t l))) : SxL P ops Q (o :: rest) n vs w0 L := by
 simp only [Prod.mk.injEq] at e
 obtain ⟨e1, e2, e3, e4, e5, e6, e7, e8, e9⟩ := e
 exact NN l (F5 e1) e2 e3 e4 e5 e6 hz e7 (by rw [e8, Nat.zero_add, Nat.ble_eq]; exact Nat.le_refl m) e9 (DF _ _ (by rw [e8]; exact e7.symm)) h
theorem zQ (i : Nat) (cs' : List Value) {g t m off : Nat} {u : TypeId} {cs : List Value} {v : Value} {p x : Operand} (hz : (P.info? u).map (·.size) = some m) (e : (gOn ops vs o.guard, o.dst, o.op, opv vs p, opv vs x, nth L i, v.cells.toList.length, Nat.ble (off + m) cs.length, v.cells.toList.all (·.oneCell')) = (true, none, Op.store u p x, some (.pointer (some ⟨g, off, none⟩)), some v, some (cell g t cs), m, true, true)) (hcs : FP cs off v.cells.toList = cs') (h : SxL P ops Q rest n vs w0 (putF L i (cell g t cs'))) : SxL P ops Q (o :: rest) n vs w0 L := by
 simp only [Prod.mk.injEq] at e
 obtain ⟨e1, e2, e3, e4, e5, e6, e7, e8, e9⟩ := e
 exact NN cs' (F5 e1) e2 e3 e4 e5 e6 hz e7 e8 e9 hcs h
theorem yt {i d : Nat} {oi : Oper} {v : Value} (k : (Region.noSelect ops, Region.free .any ops listed i, (Region.ready .any ops listed).contains i) = (true, true, true)) (hQ : ∀ c a w, Q (.panic c) (a.put (some d) v) w → Q (.panic c) a w) (hi : ops[i]? = some oi) (hd : oi.dst = some d) (hdn : Nat.blt d n = true) (hg : gOn ops vs oi.guard = true) (hrun : ∀ ρ w, Env vs ρ → S w → (execOp ρ oi).run P w = .ok (.value v) w)
  (h : SxA P ops Q S fuel (listed.setIfInBounds i true) n ((d, v) :: vs) w0 L) : SxA P ops Q S (fuel + 1) listed n vs w0 L := by
 simp only [Prod.mk.injEq] at k
 exact QE hi k.1 k.2.1 k.2.2 hd hdn hQ (F5 hg) hrun h
theorem ym (i : Nat) {d : Nat} {oi : Oper} {x : Operand} {v : Value} (e : (ops[i]?, gOn ops vs oi.guard, oi.dst, Nat.blt d n, oi.op, opv vs x) = (some oi, true, some d, true, Op.move x, some v)) (k : (Region.noSelect ops, Region.free .any ops listed i, (Region.ready .any ops listed).contains i) = (true, true, true)) (hQ : ∀ c a w, Q (.panic c) (a.put (some d) v) w → Q (.panic c) a w) (h : SxA P ops Q S fuel (listed.setIfInBounds i true) n ((d, v) :: vs) w0 L) : SxA P ops Q S (fuel + 1) listed n vs w0 L := by
 simp only [Prod.mk.injEq] at e
 exact yt k hQ e.1 e.2.2.1 e.2.2.2.1 e.2.1 (fun ρ w E H => Lq E e.2.2.2.2.1 e.2.2.2.2.2) h
theorem yA (i : Nat) {d : Nat} {oi : Oper} {x : Operand} {v : Value} (e : (ops[i]?, gOn ops vs oi.guard, oi.dst, Nat.blt d n, oi.op, opv vs x) = (some oi, true, some d, true, Op.assign x, some v)) (k : (Region.noSelect ops, Region.free .any ops listed i, (Region.ready .any ops listed).contains i) = (true, true, true)) (hQ : ∀ c a w, Q (.panic c) (a.put (some d) v) w → Q (.panic c) a w) (h : SxA P ops Q S fuel (listed.setIfInBounds i true) n ((d, v) :: vs) w0 L) : SxA P ops Q S (fuel + 1) listed n vs w0 L := by
 simp only [Prod.mk.injEq] at e
 exact yt k hQ e.1 e.2.2.1 e.2.2.2.1 e.2.1 (fun ρ w E H => O0 E e.2.2.2.2.1 e.2.2.2.2.2) h
theorem yp (i : Nat) {d : Nat} {oi : Oper} {c x y : Operand} {t : Bool} {v : Value} (e : (ops[i]?, gOn ops vs oi.guard, oi.dst, Nat.blt d n, oi.op, opv vs c, opv vs (bif t then x else y)) = (some oi, true, some d, true, Op.pick c x y, some (.bool t), some v)) (k : (Region.noSelect ops, Region.free .any ops listed i, (Region.ready .any ops listed).contains i) = (true, true, true)) (hQ : ∀ c a w, Q (.panic c) (a.put (some d) v) w → Q (.panic c) a w) (h : SxA P ops Q S fuel (listed.setIfInBounds i true) n ((d, v) :: vs) w0 L) : SxA P ops Q S (fuel + 1) listed n vs w0 L := by
 simp only [Prod.mk.injEq] at e
 exact yt k hQ e.1 e.2.2.1 e.2.2.2.1 e.2.1 (fun ρ w E H => Lo E e.2.2.2.2.1 e.2.2.2.2.2.1 e.2.2.2.2.2.2) h
theorem yl (i m : Nat) {G : List Nat} {Lk : List Ft} {d g off : Nat} {oi : Oper} {t u : TypeId} {p : Operand} {cs : List Value} {v : Value} {D : TypeDesc} (hu : P.underlying t = some D) (e : (ops[i]?, gOn ops vs oi.guard, oi.dst, Nat.blt d n, oi.op, opv vs p, nth Lk m, D.isRow, cs[off]?) = (some oi, true, some d, true, Op.load t p, some (.pointer (some ⟨g, off, none⟩)), some (cell g u cs), false, some v)) (k : (Region.noSelect ops, Region.free .any ops listed i, (Region.ready .any ops listed).contains i) = (true, true, true)) (hQ : ∀ c a w, Q (.panic c) (a.put (some d) v) w → Q (.panic c) a w) (h : SxA P ops Q (Ks w0 G Lk) fuel (listed.setIfInBounds i true) n ((d, v) :: vs) w0 L) : SxA P ops Q (Ks w0 G Lk) (fuel + 1) listed n vs w0 L := by
 simp only [Prod.mk.injEq] at e
 exact yt k hQ e.1 e.2.2.1 e.2.2.2.1 e.2.1 (fun ρ w E H => Dl E (H.get e.2.2.2.2.2.2.1) e.2.2.2.2.1 e.2.2.2.2.2.1 hu e.2.2.2.2.2.2.2.1 e.2.2.2.2.2.2.2.2) h
theorem yw (i m' : Nat) {G : List Nat} {Lk : List Ft} {d g m : Nat} {oi : Oper} {t u : TypeId} {p : Operand} {cs : List Value} {D : TypeDesc} (hu : P.underlying t = some D) (hz : (P.info? t).map (·.size) = some m) (e : (ops[i]?, gOn ops vs oi.guard, oi.dst, Nat.blt d n, oi.op, opv vs p, nth Lk m', D.isRow, cs.length) = (some oi, true, some d, true, Op.load t p, some (.pointer (some ⟨g, 0, none⟩)), some (cell g u cs), true, m)) (k : (Region.noSelect ops, Region.free .any ops listed i, (Region.ready .any ops listed).contains i) = (true, true, true)) (hQ : ∀ c a w, Q (.panic c) (a.put (some d) (.agg cs.toArray)) w → Q (.panic c) a w) (h : SxA P ops Q (Ks w0 G Lk) fuel (listed.setIfInBounds i true) n ((d, .agg cs.toArray) :: vs) w0 L) : SxA P ops Q (Ks w0 G Lk) (fuel + 1) listed n vs w0 L := by
 simp only [Prod.mk.injEq] at e
 exact yt k hQ e.1 e.2.2.1 e.2.2.2.1 e.2.1 (fun ρ w E H => Iu E (H.get e.2.2.2.2.2.2.1) e.2.2.2.2.1 e.2.2.2.2.2.1 hu e.2.2.2.2.2.2.2.1 hz (by rw [List.drop_zero, ← e.2.2.2.2.2.2.2.2]; exact List.take_length) e.2.2.2.2.2.2.2.2) h
theorem yv (i m' : Nat) (part : List Value) {G : List Nat} {Lk : List Ft} {d g m off : Nat} {oi : Oper} {t u : TypeId} {p : Operand} {cs : List Value} {D : TypeDesc} (hu : P.underlying t = some D) (hz : (P.info? t).map (·.size) = some m) (e : (ops[i]?, gOn ops vs oi.guard, oi.dst, Nat.blt d n, oi.op, opv vs p, nth Lk m', D.isRow, part.length, (cs.drop off).take m) = (some oi, true, some d, true, Op.load t p, some (.pointer (some ⟨g, off, none⟩)), some (cell g u cs), true, m, part)) (k : (Region.noSelect ops, Region.free .any ops listed i, (Region.ready .any ops listed).contains i) = (true, true, true)) (hQ : ∀ c a w, Q (.panic c) (a.put (some d) (.agg part.toArray)) w → Q (.panic c) a w) (h : SxA P ops Q (Ks w0 G Lk) fuel (listed.setIfInBounds i true) n ((d, .agg part.toArray) :: vs) w0 L) : SxA P ops Q (Ks w0 G Lk) (fuel + 1) listed n vs w0 L := by
 simp only [Prod.mk.injEq] at e
 obtain ⟨e0, e1, e2, e3, e4, e5, e6, e7, e8, e9⟩ := e
 exact yt k hQ e0 e2 e3 e1 (fun ρ w E H => Iu E (H.get e6) e4 e5 hu e7 hz e9 e8) h
theorem yf (i j : Nat) {d s f off g q : Nat} {oi : Oper} {x : Operand} (hf : fieldAt P s f off) (e : (ops[i]?, gOn ops vs oi.guard, oi.dst, Nat.blt d n, oi.op, opv vs x, q + off) = (some oi, true, some d, true, Op.fieldAddr s x f, some (.pointer (some ⟨g, q, none⟩)), j)) (k : (Region.noSelect ops, Region.free .any ops listed i, (Region.ready .any ops listed).contains i) = (true, true, true)) (hQ : ∀ c a w, Q (.panic c) (a.put (some d) (.pointer (some ⟨g, j, none⟩))) w → Q (.panic c) a w) (h : SxA P ops Q S fuel (listed.setIfInBounds i true) n ((d, .pointer (some ⟨g, j, none⟩)) :: vs) w0 L) : SxA P ops Q S (fuel + 1) listed n vs w0 L := by
 simp only [Prod.mk.injEq] at e
 exact yt k hQ e.1 e.2.2.1 e.2.2.2.1 e.2.1 (fun ρ w E H => ND E e.2.2.2.2.1 hf e.2.2.2.2.2.1 e.2.2.2.2.2.2) h
theorem yo (i : Nat) {d : Nat} {oi : Oper} (e : (ops[i]?, VW ops vs oi.guard, oi.dst, Nat.blt d n) = (some oi, true, some d, true)) (k : (Region.noSelect ops, Region.free .any ops listed i, (Region.ready .any ops listed).contains i) = (true, true, true)) (hQ : ∀ c a w, Q (.panic c) (a.put (some d) undef) w → Q (.panic c) a w) (h : SxA P ops Q S fuel (listed.setIfInBounds i true) n ((d, undef) :: vs) w0 L) : SxA P ops Q S (fuel + 1) listed n vs w0 L := by
 simp only [Prod.mk.injEq] at e k
 exact QD e.1 k.1 k.2.1 k.2.2 e.2.2.1 e.2.2.2 hQ (SS e.2.1) h
theorem yr (i : Nat) (hr : Region.ready .any ops listed = [i]) (h : SxO P ops Q S fuel listed i n vs w0 L) : SxA P ops Q S (fuel + 1) listed n vs w0 L := Ed [i] hr (by simp) ⟨h, trivial⟩
end Go.Proofs.YteiaiilfekojfaaGreat.Sx
end
section
namespace Go.Proofs.YteiaiilfekojfaaGreat.Sx
open Go.RowKit

theorem EJ : Enters Tryz.prog 38 := enters_of Tryz.func38 (by kernel_rfl) rfl
theorem EQ : Enters Tryz.prog 35 := enters_of Tryz.func35 (by kernel_rfl) rfl
theorem Bt : Enters Tryz.prog 34 := enters_of Tryz.func34 (by kernel_rfl) rfl
theorem Br : Enters Tryz.prog 74 := enters_of Tryz.func74 (by kernel_rfl) rfl
theorem Ce : Enters Tryz.prog 40 := enters_of Tryz.func40 (by kernel_rfl) rfl
theorem CP : Enters Tryz.prog 36 := enters_of Tryz.func36 (by kernel_rfl) rfl
theorem E5 : Enters Tryz.prog 75 := enters_of Tryz.func75 (by kernel_rfl) rfl
theorem GR : Enters Tryz.prog 33 := enters_of Tryz.func33 (by kernel_rfl) rfl
theorem GZ : Enters Tryz.prog 41 := enters_of Tryz.func41 (by kernel_rfl) rfl
theorem AX : Enters Tryz.prog 73 := enters_of Tryz.func73 (by kernel_rfl) rfl
theorem ET : Enters Tryz.prog 108 := enters_of Tryz.func108 (by kernel_rfl) rfl
theorem Nk : (Tryz.prog.info? 76).map (·.size) = some 1 := by kernel_rfl
theorem GN : (Tryz.prog.info? 103).map (·.size) = some 1 := by kernel_rfl
theorem Js : (Tryz.prog.info? 103).bind (·.zero) = some (.slice none 0 0) := by kernel_rfl
theorem Gn : (Tryz.prog.info? 103).map (fun i => (i.zero, i.size, i.bytes)) = some (some (.slice none 0 0), 1, 24) := by kernel_rfl
theorem Af : (Tryz.prog.info? 78).map (·.size) = some 2 := by kernel_rfl
theorem AC : (Tryz.prog.info? 78).bind (·.zero) = some (.agg #[.slice none 0 0, .slice none 0 0]) := by kernel_rfl
theorem Ba : fieldAt Tryz.prog 78 0 0 := ⟨_, _, 0, Tryz.underlying78, rfl, by kernel_rfl, rfl⟩
theorem BV : fieldAt Tryz.prog 78 1 1 := ⟨_, _, 0, Tryz.underlying78, rfl, by kernel_rfl, rfl⟩
end Go.Proofs.YteiaiilfekojfaaGreat.Sx
end
section
namespace Go.Proofs.YteiaiilfekojfaaGreat.Sx
open Go.RowKit

theorem E6 : Enters Tryz.prog 72 := enters_of Tryz.func72 (by kernel_rfl) rfl
theorem Ez : Enters Tryz.prog 68 := enters_of Tryz.func68 (by kernel_rfl) rfl
end Go.Proofs.YteiaiilfekojfaaGreat.Sx
end
section
namespace Go.Proofs.YteiaiilfekojfaaGreat.Sx
open Go.RowKit

theorem OK : (Tryz.prog.info? 3).map (·.size) = some 1 := by kernel_rfl
theorem Yb : (Tryz.prog.info? 3).map (fun i => (i.zero, i.size, i.bytes)) = some (some (.int .i64 0), 1, 8) := by kernel_rfl
end Go.Proofs.YteiaiilfekojfaaGreat.Sx
end
section
namespace Go.Proofs.YteiaiilfekojfaaGreat.Sx
open Go.RowKit

theorem Gi : Enters Tryz.prog 37 := enters_of Tryz.func37 (by kernel_rfl) rfl
theorem DY : Enters Tryz.prog 26 := enters_of Tryz.func26 (by kernel_rfl) rfl
theorem Fe : Enters Tryz.prog 25 := enters_of Tryz.func25 (by kernel_rfl) rfl
theorem I4 : Enters Tryz.prog 32 := enters_of Tryz.func32 (by kernel_rfl) rfl
theorem Fh : Enters Tryz.prog 21 := enters_of Tryz.func21 (by kernel_rfl) rfl
theorem D6 : (Tryz.prog.info? 55).map (·.size) = some 22 := by kernel_rfl
theorem Hj : (Tryz.prog.info? 55).bind (·.zero) = some (.agg #[.int .u8 0, .int .u8 0, .int .u8 0, .int .i64 0, .int .u8 0, .int .u64 0, .int .u8 0, .int .u64 0, .int .u64 0, .int .u8 0, .string ⟨[].toArray⟩, .slice none 0 0, .slice none 0 0, .int .u8 0, .int .u32 0, .int .u8 0, .string ⟨[].toArray⟩, .string ⟨[].toArray⟩, .string ⟨[].toArray⟩, .int .u8 0, .int .u8 0, .string ⟨[].toArray⟩]) := by kernel_rfl
theorem GQ : fieldAt Tryz.prog 55 0 0 := ⟨_, _, 0, Tryz.underlying55, rfl, by kernel_rfl, rfl⟩
theorem Ar : fieldAt Tryz.prog 55 1 1 := ⟨_, _, 0, Tryz.underlying55, rfl, by kernel_rfl, rfl⟩
theorem Aq : fieldAt Tryz.prog 55 2 2 := ⟨_, _, 0, Tryz.underlying55, rfl, by kernel_rfl, rfl⟩
theorem AD : fieldAt Tryz.prog 55 3 3 := ⟨_, _, 0, Tryz.underlying55, rfl, by kernel_rfl, rfl⟩
theorem BD : fieldAt Tryz.prog 55 4 4 := ⟨_, _, 17, Tryz.underlying55, rfl, by kernel_rfl, rfl⟩
end Go.Proofs.YteiaiilfekojfaaGreat.Sx
end
section
namespace Go.Proofs.YteiaiilfekojfaaGreat.Sx
open Go.RowKit

theorem Fv : Enters Tryz.prog 28 := enters_of Tryz.func28 (by kernel_rfl) rfl
theorem Gs : Enters Tryz.prog 29 := enters_of Tryz.func29 (by kernel_rfl) rfl
theorem Ee : Enters Tryz.prog 39 := enters_of Tryz.func39 (by kernel_rfl) rfl
theorem Fq : Enters Tryz.prog 31 := enters_of Tryz.func31 (by kernel_rfl) rfl
theorem Dn : Enters Tryz.prog 30 := enters_of Tryz.func30 (by kernel_rfl) rfl
theorem CL : Enters Tryz.prog 23 := enters_of Tryz.func23 (by kernel_rfl) rfl
theorem Dm : Enters Tryz.prog 65 := enters_of Tryz.func65 (by kernel_rfl) rfl
theorem Ie : Enters Tryz.prog 22 := enters_of Tryz.func22 (by kernel_rfl) rfl
theorem Gv : Enters Tryz.prog 104 := enters_of Tryz.func104 (by kernel_rfl) rfl
theorem Ei : Enters Tryz.prog 64 := enters_of Tryz.func64 (by kernel_rfl) rfl
theorem Hf : Enters Tryz.prog 67 := enters_of Tryz.func67 (by kernel_rfl) rfl
theorem FA : Enters Tryz.prog 24 := enters_of Tryz.func24 (by kernel_rfl) rfl
theorem Da : Enters Tryz.prog 66 := enters_of Tryz.func66 (by kernel_rfl) rfl
theorem Nl : (Tryz.prog.info? 136).map (·.size) = some 2 := by kernel_rfl
theorem QH : (Tryz.prog.info? 136).bind (·.zero) = some (.agg #[.int .u8 0, .int .u8 0]) := by kernel_rfl
theorem E4 : (Tryz.prog.info? 128).map (·.size) = some 1 := by kernel_rfl
theorem WJ : (Tryz.prog.info? 4).bind (·.zero) = some (.bool false) := by kernel_rfl
theorem Aj : (Tryz.prog.info? 59).map (·.size) = some 20 := by kernel_rfl
theorem AI : (Tryz.prog.info? 59).bind (·.zero) = some (.agg #[.int .u8 0, .int .u8 0, .int .u8 0, .int .u64 0, .int .u8 0, .int .u64 0, .int .u64 0, .int .u8 0, .string ⟨[].toArray⟩, .slice none 0 0, .slice none 0 0, .int .u8 0, .int .u32 0, .int .u8 0, .string ⟨[].toArray⟩, .string ⟨[].toArray⟩, .string ⟨[].toArray⟩, .int .u8 0, .int .u8 0, .string ⟨[].toArray⟩]) := by kernel_rfl
theorem Ci : (Tryz.prog.info? 59).map (fun i => (i.zero, i.size, i.bytes)) = some (some (.agg #[.int .u8 0, .int .u8 0, .int .u8 0, .int .u64 0, .int .u8 0, .int .u64 0, .int .u64 0, .int .u8 0, .string ⟨[].toArray⟩, .slice none 0 0, .slice none 0 0, .int .u8 0, .int .u32 0, .int .u8 0, .string ⟨[].toArray⟩, .string ⟨[].toArray⟩, .string ⟨[].toArray⟩, .int .u8 0, .int .u8 0, .string ⟨[].toArray⟩]), 20, 216) := by kernel_rfl
theorem Bv : fieldAt Tryz.prog 59 0 0 := ⟨_, _, 0, Tryz.underlying59, rfl, by kernel_rfl, rfl⟩
theorem Bm : fieldAt Tryz.prog 59 1 1 := ⟨_, _, 0, Tryz.underlying59, rfl, by kernel_rfl, rfl⟩
theorem Bl : fieldAt Tryz.prog 59 2 2 := ⟨_, _, 17, Tryz.underlying59, rfl, by kernel_rfl, rfl⟩
theorem Bo : fieldAt Tryz.prog 130 0 0 := ⟨_, _, 0, Tryz.underlying130, rfl, by kernel_rfl, rfl⟩
theorem FH : fieldAt Tryz.prog 130 1 1 := ⟨_, _, 0, Tryz.underlying130, rfl, by kernel_rfl, rfl⟩
theorem Bj : (Tryz.prog.info? 57).map (·.size) = some 2 := by kernel_rfl
theorem He : (Tryz.prog.info? 57).bind (·.zero) = some (.agg #[.int .u8 0, .int .u8 0]) := by kernel_rfl
theorem Kz : (Tryz.prog.info? 57).map (fun i => (i.zero, i.size, i.bytes)) = some (some (.agg #[.int .u8 0, .int .u8 0]), 2, 2) := by kernel_rfl
theorem Bc : (Tryz.prog.info? 134).map (·.size) = some 3 := by kernel_rfl
theorem CJ : (Tryz.prog.info? 134).bind (·.zero) = some (.agg #[.int .u8 0, .int .u8 0, .string ⟨[].toArray⟩]) := by kernel_rfl
theorem D2 : (Tryz.prog.info? 134).map (fun i => (i.zero, i.size, i.bytes)) = some (some (.agg #[.int .u8 0, .int .u8 0, .string ⟨[].toArray⟩]), 3, 24) := by kernel_rfl
theorem Gq : fieldAt Tryz.prog 134 0 0 := ⟨_, _, 1, Tryz.underlying134, rfl, by kernel_rfl, rfl⟩
theorem IL : fieldAt Tryz.prog 134 1 2 := ⟨_, _, 0, Tryz.underlying134, rfl, by kernel_rfl, rfl⟩
end Go.Proofs.YteiaiilfekojfaaGreat.Sx
end
section
namespace Go.Proofs.YteiaiilfekojfaaGreat
open Go.RowKit Go.MapKept

section
variable {P : Program} {w : World} {t kt et : TypeId} {k : IntKind} {g clock : Nat} {es : Array MapEntry}
theorem HU (hg : w.heap[g]? = some (.map es clock)) : (getObj g).run P w = .ok (.map es clock) w := by simp [getObj, Sem.run, hg]
theorem Je {o : Obj} (hg : w.heap[g]? = some (.map es clock)) : (setObj g o).run P w = .ok () (w.putObj g o) := by simp [setObj, Sem.run, hg, World.putObj]
set_option linter.unusedSimpArgs false in
theorem PZ (ht : P.underlying t = some (.map kt et)) (hk : P.underlying kt = some (.int k)) (hg : w.heap[g]? = some (.map es clock)) (n : Int) (v : Value)
  (hf : Instr.findNow (.int k) (.int k n) es.toList 0 = some none) :
  (Instr.mapUpdate t (.map (some g)) (.int k n) v).run P w = .ok () (w.putObj g (.map (es.push { key := .int k n, val := v, born := clock }) (clock + 1))) := by
 unfold Instr.mapUpdate
 simp only [Sem.run_bind, run_underlying ht, Result.andThen, HU hg]
 rw [run_checkKey hk (by trivial) false 9999]
 simp only [Result.andThen]
 have hfk : (Instr.findKey kt (.int k n) es.toList).run P w = .ok none w := by
  unfold Instr.findKey
  simp only [Sem.run_bind, run_underlying hk, Result.andThen, hf, Sem.run_pure]
 rw [hfk]
 simp only [Result.andThen, Je hg]
set_option linter.unusedSimpArgs false in
theorem VO (ht : P.underlying t = some (.map kt et)) (hk : P.underlying kt = some (.int k)) (hg : w.heap[g]? = some (.map es clock)) (n : Int) (z : Value) (hz : (zeroValue et).run P w = .ok z w) (r : Option (Nat × Value))
  (hf : Instr.findNow (.int k) (.int k n) es.toList 0 = some r) :
  (Instr.lookup t (.map (some g)) (.int k n) true).run P w = .ok (.tuple #[(r.map (·.2)).getD z, .bool r.isSome]) w := by
 unfold Instr.lookup
 simp only [Sem.run_bind, run_underlying ht, Result.andThen, HU hg, Sem.run_pure]
 rw [run_checkKey hk (by trivial) es.isEmpty 9999]
 simp only [Result.andThen]
 have hfk : (Instr.findKey kt (.int k n) es.toList).run P w = .ok r w := by
  unfold Instr.findKey
  simp only [Sem.run_bind, run_underlying hk, Result.andThen, hf, Sem.run_pure]
 rw [hfk]
 cases r with
 | none => simp [Result.andThen, hz]
 | some p => simp [Result.andThen]
end
end Go.Proofs.YteiaiilfekojfaaGreat
end
section
set_option linter.unusedVariables false
set_option linter.unusedSimpArgs false
set_option linter.unusedSectionVars false
namespace Go.Proofs.YteiaiilfekojfaaGreat.Sx
open Go.RowKit DrawInv

structure KeyT {α : Type} [DecidableEq α] (P : Program) (kt : TypeId) (enc : α → Value) : Prop where
 now : ∃ d, P.underlying kt = some d ∧ ∀ k e, Instr.sameNow d k e = none
 check : ∀ (x : α) (b : Bool) (w : World), (Instr.checkKey b 10000 kt (enc x)).run P w = .ok () w
 equal : ∀ (x y : α) (w : World), (Op.equal kt (enc x) (enc y)).run P w = .ok (decide (x = y)) w
 same : ∀ x : α, Instr.sameBits 10000 (enc x) (enc x) = true
def MapE {α : Type} (w : World) (g : Nat) (enc : α → Value) (M : List (α × Value)) : Prop := ∃ es clock, w.heap[g]? = some (.map es clock) ∧ es.toList.map (fun e => (e.key, e.val)) = M.map fun p => (enc p.1, p.2)
def NT {α : Type} (g : Nat) (enc : α → Value) (M : List (α × Value)) : Ft := ⟨[g], fun w => MapE w g enc M⟩
theorem Ia {α : Type} (g : Nat) (enc : α → Value) (M : List (α × Value)) : (NT g enc M).Loc := fun w w' h ⟨es, c, h1, h2⟩ => ⟨es, c, (h g (List.mem_singleton.2 rfl)).trans h1, h2⟩
theorem MapE.lt {α : Type} {w : World} {g : Nat} {enc : α → Value} {M : List (α × Value)} (h : MapE w g enc M) : g < w.heap.size := by obtain ⟨es, c, h1, _⟩ := h; exact (Array.getElem?_eq_some_iff.1 h1).1
def DK {α : Type} [DecidableEq α] : List (α × Value) → α → Nat → Option (Nat × Value)
 | [], _, _ => none
 | p :: M, x, i => if x = p.1 then some (i, p.2) else DK M x (i + 1)
def GX {α : Type} [DecidableEq α] : List (α × Value) → α → Value → List (α × Value)
 | [], x, v => [(x, v)]
 | p :: M, x, v => if x = p.1 then (x, v) :: M else p :: GX M x v
theorem Oy {α : Type} [DecidableEq α] : ∀ (M : List (α × Value)) (x : α) (v u : Value) (i k : Nat), DK M x k = some (i, u) → k ≤ i ∧ i - k < M.length ∧ GX M x v = M.set (i - k) (x, v) ∧ (M[i - k]?).map (·.1) = some x
 | [], _, _, _, _, _, h => by cases h
 | p :: M, x, v, u, i, k, h => by
  unfold DK at h
  by_cases e : x = p.1
  ·rw [if_pos e] at h
   injection h with h
   injection h with h1 h2
   subst h1
   refine ⟨Nat.le_refl _, by simp, ?_, by simp [e]⟩
   unfold GX
   rw [if_pos e]
   simp
  ·rw [if_neg e] at h
   obtain ⟨h1, h2, h3, h4⟩ := Oy M x v u i (k + 1) h
   have ei : i - k = (i - (k + 1)) + 1 := by omega
   refine ⟨by omega, by rw [ei]; simpa using h2, ?_, by rw [ei]; simpa using h4⟩
   unfold GX
   rw [if_neg e, h3, ei]
   rfl
theorem NA {α : Type} [DecidableEq α] : ∀ (M : List (α × Value)) (x : α) (v : Value) (k : Nat), DK M x k = none → GX M x v = M ++ [(x, v)]
 | [], _, _, _, _ => rfl
 | p :: M, x, v, k, h => by
  unfold DK at h
  by_cases e : x = p.1
  ·rw [if_pos e] at h; cases h
  ·rw [if_neg e] at h
   unfold GX
   rw [if_neg e, NA M x v (k + 1) h]
   rfl
section
variable {α : Type} [DecidableEq α] {P : Program} {w : World} {kt : TypeId} {enc : α → Value}
theorem Jy (K : KeyT P kt enc) (x : α) : ∀ (es : List MapEntry) (M : List (α × Value)) (i : Nat), es.map (fun e => (e.key, e.val)) = M.map (fun p => (enc p.1, p.2)) → (Instr.findAsking kt (enc x) es i).run P w = .ok (DK M x i) w
 | [], [], i, _ => rfl
 | [], _ :: _, _, h => by cases h
 | _ :: _, [], _, h => by cases h
 | e :: es, p :: M, i, h => by
  simp only [List.map_cons, List.cons.injEq, Prod.mk.injEq] at h
  obtain ⟨⟨h1, h2⟩, h3⟩ := h
  unfold Instr.findAsking DK
  rw [h1]
  simp only [Sem.run_bind, K.equal x p.1 w, Result.andThen_ok]
  by_cases e1 : x = p.1
  ·rw [if_pos (by simpa using e1), if_pos e1, h2]; rfl
  ·rw [if_neg (by simpa using e1), if_neg e1]
   exact Jy K x es M (i + 1) h3
theorem M3 (K : KeyT P kt enc) (x : α) (es : List MapEntry) (M : List (α × Value)) (h : es.map (fun e => (e.key, e.val)) = M.map (fun p => (enc p.1, p.2))) : (Instr.findKey kt (enc x) es).run P w = .ok (DK M x 0) w := by
 obtain ⟨d, hd, hn⟩ := K.now
 unfold Instr.findKey
 simp only [Sem.run_bind, run_underlying hd, Result.andThen_ok]
 cases es with
 | nil =>
  cases M with
  | nil => rfl
  | cons p M => cases h
 | cons e es =>
  unfold Instr.findNow
  rw [hn]
  exact Jy K x (e :: es) M 0 h
variable {g t et : Nat} {M : List (α × Value)}
theorem TL (K : KeyT P kt enc) (hg : MapE w g enc M) (ht : P.underlying t = some (.map kt et)) (x : α) (z : Value) (hz : (P.info? et).bind (·.zero) = some z) : (Instr.lookup t (.map (some g)) (enc x) false).run P w = .ok (((DK M x 0).map (·.2)).getD z) w := by
 obtain ⟨es, c, h1, h2⟩ := hg
 have hzv : (zeroValue et).run P w = .ok z w := by
  cases hi : P.info? et with
  | none => rw [hi] at hz; cases hz
  | some i =>
   rw [hi] at hz
   have hz : i.zero = some z := hz
   simp [zeroValue, typeInfo, hi, hz]
 unfold Instr.lookup
 simp only [Sem.run_bind, run_underlying ht, Result.andThen_ok, HU h1, Sem.run_pure, K.check x _ w, M3 K x es.toList M h2]
 cases DK M x 0 with
 | none => simp [hzv]
 | some r => simp
theorem Vn (K : KeyT P kt enc) (hg : MapE w g enc M) (ht : P.underlying t = some (.map kt et)) (x : α) (v : Value) : ∃ w', (Instr.mapUpdate t (.map (some g)) (enc x) v).run P w = .ok () w' ∧ MapE w' g enc (GX M x v) ∧ w.grownBy w' (some g) := by
 have hlt := hg.lt
 obtain ⟨es, c, h1, h2⟩ := hg
 have hgr : ∀ o, w.grownBy (w.putObj g o) (some g) := fun o => ⟨rfl, rfl, rfl, by rw [World.putObj_size]; exact Nat.le_refl _, fun k hk hne => World.putObj_heap_other (fun e => hne (by rw [e]))⟩
 unfold Instr.mapUpdate
 simp only [Sem.run_bind, run_underlying ht, Result.andThen_ok, HU h1, K.check x _ w, M3 K x es.toList M h2]
 cases hf : DK M x 0 with
 | none =>
  simp only [Je h1]
  refine ⟨_, rfl, ⟨_, _, World.putObj_heap_same hlt, ?_⟩, hgr _⟩
  rw [NA M x v 0 hf]
  simp [h2]
 | some r =>
  obtain ⟨i, u⟩ := r
  obtain ⟨-, k2, k3, k4⟩ := Oy M x v u i 0 hf
  rw [Nat.sub_zero] at k2 k3 k4
  have hk : ((es[i]?).map (·.key)) = some (enc x) := by
   have e1 : (es.toList.map (fun e => (e.key, e.val)))[i]? = (M.map fun p => (enc p.1, p.2))[i]? := by rw [h2]
   rw [List.getElem?_map, List.getElem?_map] at e1
   have e2 := congrArg (Option.map (·.1)) e1
   rw [Option.map_map, Option.map_map] at e2
   have e3 : (M[i]?).map ((fun q : Value × Value => q.1) ∘ fun p => (enc p.1, p.2)) = (M[i]?.map (·.1)).map enc := by rw [Option.map_map]; rfl
   rw [e3, k4] at e2
   simpa [Function.comp_def] using e2
  simp only [hk, Option.getD_some]
  unfold Instr.keyThatStays
  rw [if_pos (K.same x)]
  simp only [Sem.run_bind, Sem.run_pure, Result.andThen_ok, Je h1]
  refine ⟨_, rfl, ⟨_, _, World.putObj_heap_same hlt, ?_⟩, hgr _⟩
  rw [k3]
  refine List.ext_getElem? fun j => ?_
  have e1 : (es.toList.map (fun e => (e.key, e.val)))[j]? = (M.map fun p => (enc p.1, p.2))[j]? := by rw [h2]
  rw [List.getElem?_map, List.getElem?_map] at e1 ⊢
  rw [Array.getElem?_toList] at e1 ⊢
  rw [Array.getElem?_modify]
  by_cases hj : i = j
  ·subst hj
   rw [if_pos rfl, List.getElem?_set_self k2]
   cases he : es[i]? with
   | none => rw [he] at hk; cases hk
   | some e => simp
  ·rw [if_neg hj, List.getElem?_set_ne hj]
   exact e1
end
section
variable {α : Type} [DecidableEq α] {P : Program} {kt : TypeId} {enc : α → Value} {ops : Array Oper} {Q : Exit → Act → World → Prop} {n : Nat} {vs : Vs} {w0 : World} {L : List Ft} {o : Oper} {rest : List Oper} {S : World → Prop} {fuel : Nat} {listed : Array Bool} {M : List (α × Value)} {g t et : Nat}
theorem U6 {ρ : Operand → Value} {w : World} {x y : Operand} {k : α} {z : Value} (E : Env vs ρ) (K : KeyT P kt enc) (hg : MapE w g enc M) (ho : o.op = .lookup t x y false) (ht : P.underlying t = some (.map kt et)) (hz : (P.info? et).bind (·.zero) = some z) (hx : opv vs x = some (.map (some g))) (hy : opv vs y = some (enc k)) {r : Value} (hr : ((DK M k 0).map (·.2)).getD z = r) : (execOp ρ o).run P w = .ok (.value r) w := by
 subst hr
 unfold execOp; rw [ho]
 simp only [E.ev hx, E.ev hy, Sem.run_bind, TL K hg ht k z hz, Result.andThen_ok]
 rfl
theorem Hp.putM {ρ : Operand → Value} {w : World} {i : Nat} {x y u : Operand} {k : α} {v : Value} (E : Env vs ρ) (H : Hp w0 L w) (K : KeyT P kt enc) (hi : nth L i = some (NT g enc M)) (ho : o.op = .mapUpdate t x y u) (ht : P.underlying t = some (.map kt et)) (hx : opv vs x = some (.map (some g))) (hy : opv vs y = some (enc k)) (hu : opv vs u = some v) :
  ∃ w', (execOp ρ o).run P w = .ok .skip w' ∧ Hp w0 (putF L i (NT g enc (GX M k v))) w' := by
 obtain ⟨w', hr, hm, hgr⟩ := Vn (P := P) (w := w) K (H.get hi) ht k v
 refine ⟨w', ?_, H.chg hi _ (Outs.of_grown hgr (List.mem_singleton.2 rfl)) (Ia _ _ _) (fun b hb => ?_) (fun b hb => .inl hb) hm⟩
 ·unfold execOp; rw [ho]
  simp only [E.ev hx, E.ev hy, E.ev hu, Sem.run_bind, hr, Result.andThen_ok]
  rfl
 ·obtain rfl := List.mem_singleton.1 hb
  exact ⟨hm.lt, .inl (List.mem_singleton.2 rfl)⟩
theorem Hp.newM {ρ : Operand → Value} {w : World} (E : Env vs ρ) (H : Hp w0 L w) (enc : α → Value) (ho : o.op = .makeMap t none) : ∃ (s : Nat) (w' : World), (execOp ρ o).run P w = .ok (.value (.map (some s))) w' ∧ w0.heap.size ≤ s ∧ Hp w0 (NT s enc [] :: L) w' := by
 refine ⟨w.heap.size, w.alloc (.map #[] 0), ?_, H.os.size, H.add ((Below.refl _ w).alloc (Nat.le_refl _) _) _ (Ia _ _ _) (fun b hb => ?_) ⟨#[], 0, by rw [World.alloc]; simp, rfl⟩⟩
 ·unfold execOp; rw [ho]
  simp only [Instr.makeMap, newObj, Sem.run_bind]
  rfl
 ·obtain rfl := List.mem_singleton.1 hb
  exact ⟨by rw [World.alloc, Array.size_push]; omega, Nat.le_refl _⟩
theorem Hp.clearM {ρ : Operand → Value} {w : World} {i : Nat} {x : Operand} (E : Env vs ρ) (H : Hp w0 L w) (hi : nth L i = some (NT g enc M)) (ho : o.op = .call { callee := .builtin .clear, args := #[x], argTypes := #[t] }) (ht : P.underlying t = some (.map kt et)) (hx : opv vs x = some (.map (some g))) :
  ∃ (s : Unit) (w' : World), (execOp ρ o).run P w = .ok (.value (.tuple #[])) w' ∧ True ∧ Hp w0 (putF L i (NT g enc [])) w' := by
 have hm : MapE w g enc M := H.get hi
 have hlt := hm.lt
 obtain ⟨es, c, h1, h2⟩ := hm
 have hgr : w.grownBy (w.putObj g (.map #[] c)) (some g) := ⟨rfl, rfl, rfl, by rw [World.putObj_size]; exact Nat.le_refl _, fun k hk hne => World.putObj_heap_other (fun e => hne (by rw [e]))⟩
 have hm' : MapE (w.putObj g (.map #[] c)) g enc ([] : List (α × Value)) := ⟨#[], c, World.putObj_heap_same hlt, rfl⟩
 refine ⟨(), w.putObj g (.map #[] c), ?_, trivial, H.chg hi _ (Outs.of_grown hgr (List.mem_singleton.2 rfl)) (Ia _ _ _) (fun b hb => ?_) (fun b hb => .inl hb) hm'⟩
 ·unfold execOp; rw [ho]
  simp [E.ev hx, resolve, invoke, builtin, Builtin.clear_, run_underlying ht, HU h1, Je h1]
 ·obtain rfl := List.mem_singleton.1 hb
  exact ⟨hm'.lt, .inl (List.mem_singleton.2 rfl)⟩
end
end Go.Proofs.YteiaiilfekojfaaGreat.Sx
end
section
namespace Go.Proofs.YteiaiilfekojfaaGreat
open Go.RowKit Go

theorem FW (P : Program) (w : World) (d : Nat) (xs ys : Array Value) : (Op.eqFields d xs ys []).run P w = .ok true w := by simp [Op.eqFields]
theorem Cj {P : Program} {w : World} {d : Nat} {xs ys : Array Value} {f : Field} {fs : List Field} {a b : Value} {r s : Bool} (hn : f.name ≠ "_") (ha : (part f.type xs f.offset).run P w = .ok a w) (hb : (part f.type ys f.offset).run P w = .ok b w)
  (he : (Op.equalIn d f.type a b).run P w = .ok r w) (hr : (Op.eqFields d xs ys fs).run P w = .ok s w) : (Op.eqFields d xs ys (f :: fs)).run P w = .ok (r && s) w := by
 unfold Op.eqFields
 rw [if_pos hn]
 simp only [Sem.run_bind, ha, hb, he, Result.andThen_ok]
 cases r
 ·simp
 ·simp [hr]
theorem Qp (P : Program) (w : World) (d : Nat) (e : TypeId) (c : Nat) (xs ys : Array Value) : (Op.eqItems d e c xs ys []).run P w = .ok true w := by simp [Op.eqItems]
theorem Ls {P : Program} {w : World} {d : Nat} {e : TypeId} {c i : Nat} {is : List Nat} {xs ys : Array Value} {a b : Value} {r s : Bool} (ha : (part e xs (i * c)).run P w = .ok a w) (hb : (part e ys (i * c)).run P w = .ok b w)
  (he : (Op.equalIn d e a b).run P w = .ok r w) (hr : (Op.eqItems d e c xs ys is).run P w = .ok s w) : (Op.eqItems d e c xs ys (i :: is)).run P w = .ok (r && s) w := by
 unfold Op.eqItems
 simp only [Sem.run_bind, ha, hb, he, Result.andThen_ok]
 cases r
 ·simp
 ·simp [hr]
theorem Hz {P : Program} {t : TypeId} {fs : Array Field} (h : P.underlying t = some (.struct fs)) : P.underlying t = some (.struct (P.fieldsOf t)) ∧ P.fieldsOf t = fs := by
 have e : P.fieldsOf t = fs := by unfold Program.fieldsOf; rw [h]
 rw [e]
 exact ⟨h, rfl⟩
end Go.Proofs.YteiaiilfekojfaaGreat
end
section
namespace Go.Proofs.YteiaiilfekojfaaGreat.Sx
open Go.RowKit

theorem GY : Enters Tryz.prog 92 := enters_of Tryz.func92 (by kernel_rfl) rfl
theorem D7 : Enters Tryz.prog 58 := enters_of Tryz.func58 (by kernel_rfl) rfl
theorem FI : Enters Tryz.prog 94 := enters_of Tryz.func94 (by kernel_rfl) rfl
theorem CX : Enters Tryz.prog 140 := enters_of Tryz.func140 (by kernel_rfl) rfl
theorem DO : Enters Tryz.prog 124 := enters_of Tryz.func124 (by kernel_rfl) rfl
theorem IP : Enters Tryz.prog 180 := enters_of Tryz.func180 (by kernel_rfl) rfl
theorem G7 : Enters Tryz.prog 132 := enters_of Tryz.func132 (by kernel_rfl) rfl
theorem Gw : Enters Tryz.prog 134 := enters_of Tryz.func134 (by kernel_rfl) rfl
theorem JB : Enters Tryz.prog 116 := enters_of Tryz.func116 (by kernel_rfl) rfl
theorem KH : Enters Tryz.prog 111 := enters_of Tryz.func111 (by kernel_rfl) rfl
theorem K2 : Enters Tryz.prog 113 := enters_of Tryz.func113 (by kernel_rfl) rfl
theorem Jh : Enters Tryz.prog 78 := enters_of Tryz.func78 (by kernel_rfl) rfl
theorem GW : Enters Tryz.prog 84 := enters_of Tryz.func84 (by kernel_rfl) rfl
theorem GV : Enters Tryz.prog 137 := enters_of Tryz.func137 (by kernel_rfl) rfl
theorem J9 : Enters Tryz.prog 87 := enters_of Tryz.func87 (by kernel_rfl) rfl
theorem Hg : Enters Tryz.prog 79 := enters_of Tryz.func79 (by kernel_rfl) rfl
theorem K1 : Enters Tryz.prog 81 := enters_of Tryz.func81 (by kernel_rfl) rfl
theorem J8 : Enters Tryz.prog 80 := enters_of Tryz.func80 (by kernel_rfl) rfl
theorem Cc : Enters Tryz.prog 77 := enters_of Tryz.func77 (by kernel_rfl) rfl
theorem Dh : Enters Tryz.prog 83 := enters_of Tryz.func83 (by kernel_rfl) rfl
theorem DU : Enters Tryz.prog 82 := enters_of Tryz.func82 (by kernel_rfl) rfl
theorem FK : Enters Tryz.prog 86 := enters_of Tryz.func86 (by kernel_rfl) rfl
theorem J7 : Enters Tryz.prog 85 := enters_of Tryz.func85 (by kernel_rfl) rfl
theorem Dy : Enters Tryz.prog 88 := enters_of Tryz.func88 (by kernel_rfl) rfl
theorem EV : Enters Tryz.prog 122 := enters_of Tryz.func122 (by kernel_rfl) rfl
theorem EI : Enters Tryz.prog 159 := enters_of Tryz.func159 (by kernel_rfl) rfl
theorem EH : Enters Tryz.prog 150 := enters_of Tryz.func150 (by kernel_rfl) rfl
theorem Jw : (Tryz.prog.info? 26).map (·.size) = some 1 := by kernel_rfl
theorem Jv : (Tryz.prog.info? 25).map (·.size) = some 1 := by kernel_rfl
theorem Bi : (Tryz.prog.info? 24).map (·.size) = some 2 := by kernel_rfl
theorem IM : fieldAt Tryz.prog 24 0 0 := ⟨_, _, 0, Tryz.underlying24, rfl, by kernel_rfl, rfl⟩
theorem BG : (Tryz.prog.info? 29).map (·.size) = some 7 := by kernel_rfl
theorem H9 : (Tryz.prog.info? 29).bind (·.zero) = some (.agg #[.int .u8 0, .int .u32 0, .int .u8 0, .string ⟨[].toArray⟩, .string ⟨[].toArray⟩, .string ⟨[].toArray⟩, .int .u8 0]) := by kernel_rfl
theorem CG : fieldAt Tryz.prog 29 0 0 := ⟨_, _, 0, Tryz.underlying29, rfl, by kernel_rfl, rfl⟩
theorem CE : fieldAt Tryz.prog 29 1 1 := ⟨_, _, 0, Tryz.underlying29, rfl, by kernel_rfl, rfl⟩
theorem Bg : (Tryz.prog.info? 94).map (·.size) = some 2 := by kernel_rfl
theorem Et : (Tryz.prog.info? 94).bind (·.zero) = some (.agg #[.int .u64 0, .string ⟨[].toArray⟩]) := by kernel_rfl
theorem Gf : (Tryz.prog.info? 94).map (fun i => (i.zero, i.size, i.bytes)) = some (some (.agg #[.int .u64 0, .string ⟨[].toArray⟩]), 2, 24) := by kernel_rfl
theorem CW : fieldAt Tryz.prog 94 0 0 := ⟨_, _, 0, Tryz.underlying94, rfl, by kernel_rfl, rfl⟩
theorem EC : fieldAt Tryz.prog 94 1 1 := ⟨_, _, 0, Tryz.underlying94, rfl, by kernel_rfl, rfl⟩
theorem Av : (Tryz.prog.info? 33).map (·.size) = some 18 := by kernel_rfl
theorem D5 : (Tryz.prog.info? 33).bind (·.zero) = some (.agg #[.int .u8 0, .int .u64 0, .int .u8 0, .int .u64 0, .int .u64 0, .int .u8 0, .string ⟨[].toArray⟩, .slice none 0 0, .slice none 0 0, .int .u8 0, .int .u32 0, .int .u8 0, .string ⟨[].toArray⟩, .string ⟨[].toArray⟩, .string ⟨[].toArray⟩, .int .u8 0, .int .u8 0, .string ⟨[].toArray⟩]) := by kernel_rfl
theorem Aw : fieldAt Tryz.prog 33 0 0 := ⟨_, _, 0, Tryz.underlying33, rfl, by kernel_rfl, rfl⟩
theorem BM : fieldAt Tryz.prog 33 1 1 := ⟨_, _, 1, Tryz.underlying33, rfl, by kernel_rfl, rfl⟩
theorem BX : fieldAt Tryz.prog 33 2 3 := ⟨_, _, 0, Tryz.underlying33, rfl, by kernel_rfl, rfl⟩
theorem Bq : fieldAt Tryz.prog 33 3 4 := ⟨_, _, 0, Tryz.underlying33, rfl, by kernel_rfl, rfl⟩
theorem BW : fieldAt Tryz.prog 33 4 5 := ⟨_, _, 0, Tryz.underlying33, rfl, by kernel_rfl, rfl⟩
theorem Cf : fieldAt Tryz.prog 33 5 6 := ⟨_, _, 0, Tryz.underlying33, rfl, by kernel_rfl, rfl⟩
theorem AH : fieldAt Tryz.prog 33 6 7 := ⟨_, _, 0, Tryz.underlying33, rfl, by kernel_rfl, rfl⟩
theorem AE : fieldAt Tryz.prog 33 7 8 := ⟨_, _, 0, Tryz.underlying33, rfl, by kernel_rfl, rfl⟩
theorem Bd : fieldAt Tryz.prog 33 8 9 := ⟨_, _, 6, Tryz.underlying33, rfl, by kernel_rfl, rfl⟩
theorem B9 : fieldAt Tryz.prog 33 9 16 := ⟨_, _, 1, Tryz.underlying33, rfl, by kernel_rfl, rfl⟩
theorem Do : (Tryz.prog.info? 31).map (·.size) = some 2 := by kernel_rfl
theorem DL : fieldAt Tryz.prog 31 0 0 := ⟨_, _, 0, Tryz.underlying31, rfl, by kernel_rfl, rfl⟩
theorem Dv : fieldAt Tryz.prog 31 1 1 := ⟨_, _, 0, Tryz.underlying31, rfl, by kernel_rfl, rfl⟩
theorem AZ : (Tryz.prog.info? 92).map (·.size) = some 4 := by kernel_rfl
theorem Es : (Tryz.prog.info? 92).bind (·.zero) = some (.agg #[.int .u64 0, .int .u64 0, .int .u8 0, .string ⟨[].toArray⟩]) := by kernel_rfl
theorem Ge : (Tryz.prog.info? 92).map (fun i => (i.zero, i.size, i.bytes)) = some (some (.agg #[.int .u64 0, .int .u64 0, .int .u8 0, .string ⟨[].toArray⟩]), 4, 40) := by kernel_rfl
theorem CV : fieldAt Tryz.prog 92 0 0 := ⟨_, _, 0, Tryz.underlying92, rfl, by kernel_rfl, rfl⟩
theorem EB : fieldAt Tryz.prog 92 1 1 := ⟨_, _, 1, Tryz.underlying92, rfl, by kernel_rfl, rfl⟩
theorem EA : fieldAt Tryz.prog 92 2 3 := ⟨_, _, 0, Tryz.underlying92, rfl, by kernel_rfl, rfl⟩
theorem Az : (Tryz.prog.info? 101).map (·.size) = some 4 := by kernel_rfl
theorem AY : (Tryz.prog.info? 101).bind (·.zero) = some (.agg #[.nilFunc, .nilFunc, .nilFunc, .nilFunc]) := by kernel_rfl
theorem Jq : fieldAt Tryz.prog 101 0 0 := ⟨_, _, 0, Tryz.underlying101, rfl, by kernel_rfl, rfl⟩
theorem Jp : fieldAt Tryz.prog 101 1 1 := ⟨_, _, 0, Tryz.underlying101, rfl, by kernel_rfl, rfl⟩
theorem Jo : fieldAt Tryz.prog 101 2 2 := ⟨_, _, 0, Tryz.underlying101, rfl, by kernel_rfl, rfl⟩
theorem Jn : fieldAt Tryz.prog 101 3 3 := ⟨_, _, 0, Tryz.underlying101, rfl, by kernel_rfl, rfl⟩
theorem G8 : (Tryz.prog.info? 9).map (·.size) = some 1 := by kernel_rfl
theorem Tz : (Tryz.prog.info? 9).bind (·.zero) = some (.string ⟨[].toArray⟩) := by kernel_rfl
theorem NX : (Tryz.prog.info? 27).map (·.size) = some 1 := by kernel_rfl
theorem JL : (Tryz.prog.info? 22).map (·.size) = some 1 := by kernel_rfl
theorem DC : (Tryz.prog.info? 5).map (·.size) = some 1 := by kernel_rfl
theorem Fz : (Tryz.prog.info? 5).bind (·.zero) = some (.int .u8 0) := by kernel_rfl
theorem Nx : (Tryz.prog.info? 5).map (fun i => (i.zero, i.size, i.bytes)) = some (some (.int .u8 0), 1, 1) := by kernel_rfl
end Go.Proofs.YteiaiilfekojfaaGreat.Sx
end
section
namespace Go.Proofs.YteiaiilfekojfaaGreat
open Go.RowKit

theorem Blk.c1 {w : World} {g : Nat} {t : TypeId} {c0 : Value} (h : Blk w g t #[c0]) : w.cell? ⟨g, 0, none⟩ = some c0 := h.cell 0
theorem Blk.f1 {w : World} {g : Nat} {t : TypeId} {cs : Array Value} (h : Blk w g t cs) : w.frozen? ⟨g, 0, none⟩ = false := h.frozen 0
theorem Blk.c3 {w : World} {g : Nat} {t : TypeId} {c0 c1 c2 : Value} (h : Blk w g t #[c0, c1, c2]) : w.cell? ⟨g, 0, none⟩ = some c0 ∧ w.cell? ⟨g, 1, none⟩ = some c1 ∧ w.cell? ⟨g, 2, none⟩ = some c2 := ⟨h.cell 0, h.cell 1, h.cell 2⟩
theorem Blk.f3 {w : World} {g : Nat} {t : TypeId} {cs : Array Value} (h : Blk w g t cs) : w.frozen? ⟨g, 0, none⟩ = false ∧ w.frozen? ⟨g, 1, none⟩ = false ∧ w.frozen? ⟨g, 2, none⟩ = false := ⟨h.frozen 0, h.frozen 1, h.frozen 2⟩
theorem Blk.c4 {w : World} {g : Nat} {t : TypeId} {c0 c1 c2 c3 : Value} (h : Blk w g t #[c0, c1, c2, c3]) : w.cell? ⟨g, 0, none⟩ = some c0 ∧ w.cell? ⟨g, 1, none⟩ = some c1 ∧ w.cell? ⟨g, 2, none⟩ = some c2 ∧ w.cell? ⟨g, 3, none⟩ = some c3 := ⟨h.cell 0, h.cell 1, h.cell 2, h.cell 3⟩
theorem Blk.f4 {w : World} {g : Nat} {t : TypeId} {cs : Array Value} (h : Blk w g t cs) : w.frozen? ⟨g, 0, none⟩ = false ∧ w.frozen? ⟨g, 1, none⟩ = false ∧ w.frozen? ⟨g, 2, none⟩ = false ∧ w.frozen? ⟨g, 3, none⟩ = false := ⟨h.frozen 0, h.frozen 1, h.frozen 2, h.frozen 3⟩
theorem Blk.c5 {w : World} {g : Nat} {t : TypeId} {c0 c1 c2 c3 c4 : Value} (h : Blk w g t #[c0, c1, c2, c3, c4]) : w.cell? ⟨g, 0, none⟩ = some c0 ∧ w.cell? ⟨g, 1, none⟩ = some c1 ∧ w.cell? ⟨g, 2, none⟩ = some c2 ∧ w.cell? ⟨g, 3, none⟩ = some c3 ∧ w.cell? ⟨g, 4, none⟩ = some c4 := ⟨h.cell 0, h.cell 1, h.cell 2, h.cell 3, h.cell 4⟩
theorem Blk.f5 {w : World} {g : Nat} {t : TypeId} {cs : Array Value} (h : Blk w g t cs) : w.frozen? ⟨g, 0, none⟩ = false ∧ w.frozen? ⟨g, 1, none⟩ = false ∧ w.frozen? ⟨g, 2, none⟩ = false ∧ w.frozen? ⟨g, 3, none⟩ = false ∧ w.frozen? ⟨g, 4, none⟩ = false := ⟨h.frozen 0, h.frozen 1, h.frozen 2, h.frozen 3, h.frozen 4⟩
theorem Blk.c6 {w : World} {g : Nat} {t : TypeId} {c0 c1 c2 c3 c4 c5 : Value} (h : Blk w g t #[c0, c1, c2, c3, c4, c5]) : w.cell? ⟨g, 0, none⟩ = some c0 ∧ w.cell? ⟨g, 1, none⟩ = some c1 ∧ w.cell? ⟨g, 2, none⟩ = some c2 ∧ w.cell? ⟨g, 3, none⟩ = some c3 ∧ w.cell? ⟨g, 4, none⟩ = some c4 ∧ w.cell? ⟨g, 5, none⟩ = some c5 := ⟨h.cell 0, h.cell 1, h.cell 2, h.cell 3, h.cell 4, h.cell 5⟩
theorem Blk.f6 {w : World} {g : Nat} {t : TypeId} {cs : Array Value} (h : Blk w g t cs) : w.frozen? ⟨g, 0, none⟩ = false ∧ w.frozen? ⟨g, 1, none⟩ = false ∧ w.frozen? ⟨g, 2, none⟩ = false ∧ w.frozen? ⟨g, 3, none⟩ = false ∧ w.frozen? ⟨g, 4, none⟩ = false ∧ w.frozen? ⟨g, 5, none⟩ = false := ⟨h.frozen 0, h.frozen 1, h.frozen 2, h.frozen 3, h.frozen 4, h.frozen 5⟩
end Go.Proofs.YteiaiilfekojfaaGreat
end
section
namespace Go.Proofs.YteiaiilfekojfaaGreat.Wire

theorem take_ok (l : List UInt8) (k : Nat) (h : k ≤ l.length) : Rd.take ⟨0, l⟩ k = (l.take k, true, ⟨0, l.drop k⟩) := by
 unfold Rd.take
 rw [if_neg (by simp), if_neg (by simp only; omega)]
theorem Nh (l : List UInt8) (k : Nat) (h : l.length < k) : Rd.take ⟨0, l⟩ k = ([], false, ⟨3, l⟩) := by
 unfold Rd.take
 rw [if_neg (by simp), if_pos h]
 rfl
theorem H6 (b : UInt8) (l : List UInt8) : Rd.byte ⟨0, b :: l⟩ = (b.toNat, ⟨0, l⟩) := by
 unfold Rd.byte
 rw [take_ok _ 1 (by simp)]
 rfl
theorem RX : Rd.byte ⟨0, []⟩ = (0, ⟨3, []⟩) := rfl
theorem SX (l : List UInt8) (e : Nat) : Rd.fail ⟨0, l⟩ e = ⟨e, l⟩ := by unfold Rd.fail; rw [if_pos rfl]
theorem Jt (r : Rd) (k : Nat) (h : r.err ≠ 0) : r.take k = ([], false, r) := by unfold Rd.take; rw [if_pos h]
theorem MI (r : Rd) (h : r.err ≠ 0) : r.byte = (0, r) := by unfold Rd.byte; rw [Jt r 1 h]
theorem Nw (r : Rd) (h : r.err ≠ 0) : r.num = (0, r) := by unfold Rd.num; rw [MI r h]; rfl
theorem Oj (b : UInt8) (l : List UInt8) (h : b.toNat < 248) : Rd.num ⟨0, b :: l⟩ = (b.toNat, ⟨0, l⟩) := by
 unfold Rd.num
 rw [H6]
 simp only
 rw [if_pos h]
theorem SH (b : UInt8) (l : List UInt8) (h : ¬ b.toNat < 248) (hk : b.toNat - 247 ≤ l.length) :
  Rd.num ⟨0, b :: l⟩ = if valB (l.take (b.toNat - 247)) < 248 ∨ Di (valB (l.take (b.toNat - 247))) ≠ b.toNat - 247 then (0, ⟨4, l.drop (b.toNat - 247)⟩) else (valB (l.take (b.toNat - 247)), ⟨0, l.drop (b.toNat - 247)⟩) := by
 unfold Rd.num
 rw [H6]
 simp only
 rw [if_neg h, take_ok _ _ hk]
 simp only [SX]
theorem Uk (b : UInt8) (l : List UInt8) (h : ¬ b.toNat < 248) (hk : l.length < b.toNat - 247) : Rd.num ⟨0, b :: l⟩ = (0, ⟨3, l⟩) := by
 unfold Rd.num
 rw [H6]
 simp only
 rw [if_neg h, Nh _ _ hk]

theorem DJ (n : Nat) (hn : n < 18446744073709551616) (rest : List UInt8) : Rd.num ⟨0, BI n ++ rest⟩ = (n, ⟨0, rest⟩) := by
 unfold BI
 by_cases h : n < 248
 ·rw [if_pos h]
  have e : (UInt8.ofNat n).toNat = n := by rw [UInt8.toNat_ofNat', Nat.mod_eq_of_lt (by omega)]
  rw [List.singleton_append, Oj _ _ (by omega), e]
 ·rw [if_neg h]
  obtain ⟨h1, h2, h3, h4⟩ := Hk n (by omega) hn
  have e : (UInt8.ofNat (247 + Di n)).toNat = 247 + Di n := by rw [UInt8.toNat_ofNat', Nat.mod_eq_of_lt (by omega)]
  have e2 : 247 + Di n - 247 = Di n := by omega
  rw [List.cons_append, SH _ _ (by omega) (by rw [e, List.length_append, Gm]; omega), e, e2]
  have et : (beB (Di n) n ++ rest).take (Di n) = beB (Di n) n := by rw [List.take_append_of_le_length (by rw [Gm]; exact Nat.le_refl _), List.take_of_length_le (by rw [Gm]; exact Nat.le_refl _)]
  have ed : (beB (Di n) n ++ rest).drop (Di n) = rest := by
   have := List.drop_left (l₁ := beB (Di n) n) (l₂ := rest)
   rwa [Gm] at this
  rw [et, ed, XV _ _ h4, if_neg (by omega)]
theorem PP (n : Nat) (hn : n < 18446744073709551616) : Rd.num ⟨0, BI n⟩ = (n, ⟨0, []⟩) := by
 have := DJ n hn []
 rwa [List.append_nil] at this
theorem Ld (s : List UInt8) (x : Nat) (rest : List UInt8) (h : Rd.num ⟨0, s⟩ = (x, ⟨0, rest⟩)) : s = BI x ++ rest := by
 match s with
 | [] => cases h
 | b :: l =>
  have hb := b.toNat_lt
  by_cases h8 : b.toNat < 248
  ·rw [Oj b l h8] at h
   cases h
   unfold BI
   rw [if_pos h8]
   simp
  ·by_cases hk : b.toNat - 247 ≤ l.length
   ·rw [SH b l h8 hk] at h
    by_cases hc : valB (l.take (b.toNat - 247)) < 248 ∨ Di (valB (l.take (b.toNat - 247))) ≠ b.toNat - 247
    ·rw [if_pos hc] at h; simp at h
    ·rw [if_neg hc] at h
     simp only [Prod.mk.injEq, Rd.mk.injEq, true_and] at h
     obtain ⟨rfl, rfl⟩ := h
     have hlen : (l.take (b.toNat - 247)).length = b.toNat - 247 := by rw [List.length_take]; omega
     unfold BI
     rw [if_neg (by omega)]
     have hw : Di (valB (l.take (b.toNat - 247))) = b.toNat - 247 := by omega
     have hbe := Y0 (l.take (b.toNat - 247))
     rw [hlen] at hbe
     rw [hw, hbe]
     have e : 247 + (b.toNat - 247) = b.toNat := by omega
     rw [e]
     simp
   ·rw [Uk b l h8 (by omega)] at h; cases h
theorem H7 (n m : Nat) (hn : n < 18446744073709551616) : Rd.below ⟨0, BI n⟩ m = if m ≤ n then (0, ⟨4, []⟩) else (n, ⟨0, []⟩) := by
 unfold Rd.below
 rw [PP n hn]
 rfl
end Go.Proofs.YteiaiilfekojfaaGreat.Wire
end
section
namespace Go.Proofs.YteiaiilfekojfaaGreat.Wire
open Go.RowKit

structure Dr where
 s : List UInt8
 e : Nat
def drC (r : Dr) : Array Value := #[.string ⟨r.s.toArray⟩, .int .i64 (r.e : Int)]
def Dr.byte (r : Dr) : Nat × Dr :=
 if r.e ≠ 0 then (0, r) else match r.s with
 | [] => (0, ⟨[], 3⟩)
 | b :: l => (b.toNat, ⟨l, 0⟩)
def Dr.end_ (r : Dr) : Dr := if r.e = 0 ∧ 0 < r.s.length then ⟨[], 4⟩ else r
end Go.Proofs.YteiaiilfekojfaaGreat.Wire
end
section
namespace Go.Proofs.YteiaiilfekojfaaGreat.Wire
open Go.RowKit

def kOf (b : UInt8) : Nat := if 248 ≤ b.toNat then b.toNat - 247 else 0
def vOf (b : UInt8) (l : List UInt8) : Nat := if 248 ≤ b.toNat then valB (l.take (kOf b)) else b.toNat
def Dr.num (r : Dr) : Nat × Dr :=
 if r.e ≠ 0 then (0, r) else match r.s with
 | [] => (0, ⟨[], 3⟩)
 | b :: l => if l.length < kOf b then (0, ⟨[], 3⟩) else if BI (vOf b l) = (b :: l).take (1 + kOf b) then (vOf b l, ⟨(b :: l).drop (1 + kOf b), 0⟩) else (0, ⟨[], 4⟩)
end Go.Proofs.YteiaiilfekojfaaGreat.Wire
end
section
namespace Go.Proofs.YteiaiilfekojfaaGreat.Wire
open Go.RowKit

def Dr.below (r : Dr) (n : Nat) : Nat × Dr := if r.num.2.e = 0 ∧ n ≤ r.num.1 then (0, ⟨[], 4⟩) else r.num
def Dr.str (r : Dr) (most : Int) : List UInt8 × Dr :=
 if r.num.2.e ≠ 0 then ([], r.num.2)
 else if (max most 0).toNat < r.num.1 then ([], ⟨[], 4⟩)
 else if r.num.2.s.length < r.num.1 then ([], ⟨[], 3⟩)
 else (r.num.2.s.take r.num.1, ⟨r.num.2.s.drop r.num.1, 0⟩)
def Dr.bad (r : Dr) : Dr := if r.e = 0 then ⟨[], 4⟩ else r

end Go.Proofs.YteiaiilfekojfaaGreat.Wire
end
section
namespace Go.Proofs.YteiaiilfekojfaaGreat.Bal
open Go.RowKit

structure B where
 n : Nat
 r : Nat
 deriving DecidableEq
def bC (b : B) : Array Value := #[.int .u64 (b.n : Int), .int .u8 (b.r : Int)]
def bV (b : B) : Value := .agg (bC b)
def JC (a b : Nat) : Int := if a < b then -1 else if b < a then 1 else 0
def Y8 (a b : B) : Int := if JC a.n b.n ≠ 0 then JC a.n b.n else JC a.r b.r

theorem Yc (n : Int) (w : World) : Calls Tryz.prog 107 #[.int .u8 n] w fun e w' => e = .returned (.bool false) ∧ w = w' := by
 go_enter Tryz.func107, Tryz.ntmps107
 go_wp2
 go_ret
 exact ⟨by simp, rfl⟩
theorem YQ (a b : Nat) (w : World) : Calls Tryz.prog 71 #[.int .u8 (a : Int), .int .u8 (b : Int)] w fun e w' => e = .returned (.int .i64 (JC a b)) ∧ w = w' := by
 rcases Nat.lt_trichotomy a b with h | h | h
 ·have e1 : JC a b = -1 := by unfold JC; rw [if_pos h]
  rw [e1]
  clear e1
  have h1 : (a : Int) < (b : Int) := by omega
  go_enter Tryz.func71, Tryz.ntmps71
  go_wp2_with (go_at_call 107; refine (Yc _ _).mono ?_; rintro e w' ⟨rfl, rfl⟩)
  go_ret
  exact ⟨rfl, rfl⟩
 ·have e1 : JC a b = 0 := by unfold JC; rw [if_neg (by omega), if_neg (by omega)]
  rw [e1]
  clear e1
  subst h
  go_enter Tryz.func71, Tryz.ntmps71
  go_wp2_with (go_at_call 107; refine (Yc _ _).mono ?_; rintro e w' ⟨rfl, rfl⟩)
  go_ret
  exact ⟨rfl, rfl⟩
 ·have e1 : JC a b = 1 := by unfold JC; rw [if_neg (by omega), if_pos h]
  rw [e1]
  clear e1
  have h1 : ¬ (a : Int) < (b : Int) := by omega
  have h2 : (b : Int) < (a : Int) := by omega
  go_enter Tryz.func71, Tryz.ntmps71
  go_wp2_with (go_at_call 107; refine (Yc _ _).mono ?_; rintro e w' ⟨rfl, rfl⟩)
  go_ret
  exact ⟨rfl, rfl⟩

theorem or2 (g : Nat) (x y : Int) (w : World) (c0 : w.cell? ⟨g, 0, none⟩ = some (.int .i64 x)) (c1 : w.cell? ⟨g, 1, none⟩ = some (.int .i64 y)) :
  Calls Tryz.prog 70 #[.slice (some ⟨g, 0, none⟩) 2 2] w fun e w' => e = .returned (.int .i64 (if x ≠ 0 then x else y)) ∧ w = w' := by
 by_cases hx : x = 0
 ·subst hx
  rw [if_neg (by simp)]
  by_cases hy : y = 0
  ·subst hy
   go_enter Tryz.func70, Tryz.ntmps70
   go_wp2
   refine wp_loop_rounds 3 ?_
   rw [rounds_succ]; go_wp2
   rw [rounds_succ]; go_wp2
   rw [rounds_succ]; go_wp2
   go_ret
   exact ⟨rfl, rfl⟩
  ·have hy2 : (y == 0) = false := beq_eq_false_iff_ne.2 hy
   go_enter Tryz.func70, Tryz.ntmps70
   go_wp2
   refine wp_loop_rounds 2 ?_
   rw [rounds_succ]; go_wp2
   rw [rounds_succ]; go_wp2
   go_ret
   exact ⟨rfl, rfl⟩
 ·rw [if_pos hx]
  have hx2 : (x == 0) = false := beq_eq_false_iff_ne.2 hx
  go_enter Tryz.func70, Tryz.ntmps70
  go_wp2
  refine wp_loop_rounds 1 ?_
  rw [rounds_succ]; go_wp2
  go_ret
  exact ⟨rfl, rfl⟩

def ltB (a b : B) : Bool := decide (a.n < b.n) || (decide (a.n = b.n) && decide (a.r < b.r))
theorem WY (a b : B) : ltB a b = decide (Y8 a b < 0) := by
 unfold ltB Y8 JC
 rcases Nat.lt_trichotomy a.n b.n with h | h | h
 ·simp [h]
 ·rcases Nat.lt_trichotomy a.r b.r with k | k | k
  ·simp [h, k]
  ·simp [h, k]
  ·have k2 : ¬ a.r < b.r := by omega
   simp [h, k, k2]
 ·have h2 : ¬ a.n < b.n := by omega
  have h3 : a.n ≠ b.n := by omega
  simp [h, h2, h3]
def Al1 (w w' : World) : Prop := ∃ o1, w.alloc o1 = w'
def Al2 (w w' : World) : Prop := ∃ o1 o2, (w.alloc o1).alloc o2 = w'
def Al3 (w w' : World) : Prop := ∃ o1 o2 o3, (((w.alloc o1).alloc o2).alloc o3).drew = w'
def Al5 (w w' : World) : Prop := ∃ o1 o2 o3 o4 o5, (((((w.alloc o1).alloc o2).alloc o3).alloc o4).alloc o5).drew = w'
theorem Ku (w : World) (o : Obj) : Below w.heap.size w (w.alloc o) := (Below.refl _ w).alloc (Nat.le_refl _) o
theorem L0 (w : World) (o p : Obj) : Below w.heap.size w ((w.alloc o).alloc p) := ((Below.refl _ w).alloc (Nat.le_refl _) o).alloc (by simp) p
theorem Al1.below {w w' : World} (h : Al1 w w') : Below w.heap.size w w' := by obtain ⟨a, rfl⟩ := h; exact Ku w a
theorem Al2.below {w w' : World} (h : Al2 w w') : Below w.heap.size w w' := by obtain ⟨a, b, rfl⟩ := h; exact L0 w a b
theorem Al5.below {w w' : World} (h : Al5 w w') : Below w.heap.size w w' := by
 obtain ⟨a, b, c, d, e, rfl⟩ := h
 exact (((L0 w a b).alloc (by simp <;> omega) c).alloc (by simp <;> omega) d).alloc (by simp <;> omega) e |>.drew
theorem Tf (w : World) (o p : Obj) (x y : Value) (t : TypeId) : ((((w.alloc o).alloc p).alloc (.cells #[x, y] t)).drew).cell? ⟨w.heap.size + 1 + 1, 0, none⟩ = some x ∧ ((((w.alloc o).alloc p).alloc (.cells #[x, y] t)).drew).cell? ⟨w.heap.size + 1 + 1, 1, none⟩ = some y := by
 have h := Blk.new ((w.alloc o).alloc p) t #[x, y]
 have e : ((w.alloc o).alloc p).heap.size = w.heap.size + 1 + 1 := by simp
 rw [e] at h
 exact ⟨h.cell 0, h.cell 1⟩

end Go.Proofs.YteiaiilfekojfaaGreat.Bal
end
section
namespace Go.Proofs.YteiaiilfekojfaaGreat.Bal
open Go.RowKit

def mayB (b : B) : Bool := (decide (b.n = 0) && decide (b.r = 0)) || (decide (0 < b.n) && decide (b.r ≤ 6))
def chkN (b : B) : Int := if mayB b then 0 else 2
set_option linter.unusedSimpArgs false in
theorem check_any (b : B) (w : World) : Calls Tryz.prog 180 #[bV b] w fun e w' => e = .returned (.int .i64 (chkN b)) ∧ Al1 w w' := by
 obtain ⟨n, r⟩ := b
 unfold bV bC
 by_cases hr : 7 ≤ r
 ·have e1 : chkN ⟨n, r⟩ = 2 := by unfold chkN mayB; have h1 : r ≠ 0 := (by omega); have h2 : ¬ r ≤ 6 := (by omega); simp [h1, h2]
  rw [e1]
  have g1 : (7 : Int) ≤ (r : Int) := by omega
  clear e1
  go_enter Tryz.func180, Tryz.ntmps180
  go_wp2
  go_ret
  exact ⟨rfl, _, rfl⟩
 have g1 : ¬ (7 : Int) ≤ (r : Int) := by omega
 by_cases hn : n = 0
 ·subst hn
  by_cases h0 : r = 0
  ·subst h0
   have e1 : chkN ⟨0, 0⟩ = 0 := by decide
   rw [e1]
   clear e1
   go_enter Tryz.func180, Tryz.ntmps180
   go_wp2
   go_ret
   exact ⟨rfl, _, rfl⟩
  ·have e1 : chkN ⟨0, r⟩ = 2 := by unfold chkN mayB; simp [h0]
   rw [e1]
   clear e1
   have g0 : ((r : Int) == 0) = false := beq_eq_false_iff_ne.2 (by omega)
   go_enter Tryz.func180, Tryz.ntmps180
   go_wp2
   go_ret
   exact ⟨rfl, _, rfl⟩
 ·have e1 : chkN ⟨n, r⟩ = 0 := by unfold chkN mayB; have h1 : 0 < n := (by omega); have h2 : r ≤ 6 := (by omega); simp [h1, h2]
  rw [e1]
  clear e1
  have g0 : ((n : Int) == 0) = false := beq_eq_false_iff_ne.2 (by omega)
  go_enter Tryz.func180, Tryz.ntmps180
  go_wp2
  go_ret
  exact ⟨rfl, _, rfl⟩

set_option linter.unusedSimpArgs false in
theorem may_any (b : B) (w : World) : Calls Tryz.prog 90 #[bV b] w fun e w' => e = .returned (.bool (mayB b)) ∧ Al1 w w' := by
 obtain ⟨n, r⟩ := b
 unfold bV bC
 by_cases hn : n = 0
 ·subst hn
  by_cases h0 : r = 0
  ·subst h0
   go_enter Tryz.func90, Tryz.ntmps90
   go_wp2
   go_ret
   exact ⟨rfl, _, rfl⟩
  ·have e1 : mayB ⟨0, r⟩ = false := by unfold mayB; simp [h0]
   rw [e1]
   clear e1
   have g0 : ((r : Int) == 0) = false := beq_eq_false_iff_ne.2 (by omega)
   go_enter Tryz.func90, Tryz.ntmps90
   go_wp2
   go_ret
   exact ⟨rfl, _, rfl⟩
 ·have g0 : ((n : Int) == 0) = false := beq_eq_false_iff_ne.2 (by omega)
  have g2 : (0 : Int) < (n : Int) := by omega
  have g3 : decide (0 < n) = true := decide_eq_true (by omega)
  by_cases h6 : r ≤ 6
  ·have e1 : mayB ⟨n, r⟩ = true := by unfold mayB; simp [hn, h6]; omega
   rw [e1]
   clear e1
   have g1 : (r : Int) ≤ 6 := by omega
   go_enter Tryz.func90, Tryz.ntmps90
   go_wp2
   go_ret
   exact ⟨rfl, _, rfl⟩
  ·have e1 : mayB ⟨n, r⟩ = false := by unfold mayB; simp [hn, h6]
   rw [e1]
   clear e1
   have g1 : ¬ (r : Int) ≤ 6 := by omega
   go_enter Tryz.func90, Tryz.ntmps90
   go_wp2
   go_ret
   exact ⟨rfl, _, rfl⟩
set_option linter.unusedSimpArgs false in
theorem Yy (b : B) : (mayB b = true → chkN b = 0) ∧ (mayB b = false → chkN b = 2) := ⟨fun h => by unfold chkN; simp [h], fun h => by unfold chkN; simp [h]⟩
end Go.Proofs.YteiaiilfekojfaaGreat.Bal
end
section
namespace Go.Proofs.YteiaiilfekojfaaGreat.Bal
open Go.RowKit

theorem D1 {α : Type} (l : List α) (k : Nat) (x : α) (h : l[k]? = some x) : l.take (k + 1) = l.take k ++ [x] := by
 rw [List.take_add_one, h]; rfl
def Balls (w : World) (A : Option Addr) (l : List B) : Prop :=
 ∀ k b, l[k]? = some b → ∃ ad, A = some ad ∧ ad.block < w.heap.size ∧ w.cell? (ad.add (k * 2)) = some (.int .u64 (b.n : Int)) ∧ w.cell? (ad.add (k * 2 + 1)) = some (.int .u8 (b.r : Int))
theorem Balls.below {w w' : World} {A : Option Addr} {l : List B} (h : Balls w A l) (hb : Below w.heap.size w w') : Balls w' A l := by
 intro k b hk
 obtain ⟨ad, e, hl, h0, h1⟩ := h k b hk
 exact ⟨ad, e, Nat.lt_of_lt_of_le hl hb.size, (hb.cell (by rw [Dw]; exact hl)).trans h0, (hb.cell (by rw [Dw]; exact hl)).trans h1⟩
end Go.Proofs.YteiaiilfekojfaaGreat.Bal
end
section
namespace Go.Proofs.YteiaiilfekojfaaGreat
open Go.Joins Go.RowKit Go.WideShapes Go.ChangeShapes Go.Deep
section
variable {H : Type} {enc : TypeId × Value → H} {P : Program} {w : World} {base : Nat} {spare : Nat → Bool} {held : Bool}
end
namespace Bal
variable {H : Type} {enc : TypeId × Value → H} {w : World} {base : Nat}
def Fits (b : B) : Prop := b.n < 18446744073709551616 ∧ b.r < 256
end Bal
end Go.Proofs.YteiaiilfekojfaaGreat
end
section
namespace Go.Proofs.YteiaiilfekojfaaGreat.Sx
open Go.RowKit

theorem EG : Enters Tryz.prog 46 := enters_of Tryz.func46 (by kernel_rfl) rfl
theorem EF : Enters Tryz.prog 45 := enters_of Tryz.func45 (by kernel_rfl) rfl
end Go.Proofs.YteiaiilfekojfaaGreat.Sx
end
section
namespace Go.Proofs.YteiaiilfekojfaaGreat.Sx
open Go.RowKit

theorem Hi : Enters Tryz.prog 15 := enters_of Tryz.func15 (by kernel_rfl) rfl
theorem FM : Enters Tryz.prog 43 := enters_of Tryz.func43 (by kernel_rfl) rfl
end Go.Proofs.YteiaiilfekojfaaGreat.Sx
end
section
namespace Go.Proofs.YteiaiilfekojfaaGreat.Sx
open Go.RowKit

theorem Ic : Enters Tryz.prog 59 := enters_of Tryz.func59 (by kernel_rfl) rfl
theorem JA : Enters Tryz.prog 44 := enters_of Tryz.func44 (by kernel_rfl) rfl
theorem Jr : Enters Tryz.prog 56 := enters_of Tryz.func56 (by kernel_rfl) rfl
theorem ER : Enters Tryz.prog 12 := enters_of Tryz.func12 (by kernel_rfl) rfl
theorem KG : Enters Tryz.prog 57 := enters_of Tryz.func57 (by kernel_rfl) rfl
end Go.Proofs.YteiaiilfekojfaaGreat.Sx
end
section
namespace Go.Proofs.YteiaiilfekojfaaGreat.Sx
open Go.RowKit

theorem Ig : Enters Tryz.prog 13 := enters_of Tryz.func13 (by kernel_rfl) rfl
theorem Hh : Enters Tryz.prog 19 := enters_of Tryz.func19 (by kernel_rfl) rfl
theorem GU : Enters Tryz.prog 42 := enters_of Tryz.func42 (by kernel_rfl) rfl
end Go.Proofs.YteiaiilfekojfaaGreat.Sx
end
