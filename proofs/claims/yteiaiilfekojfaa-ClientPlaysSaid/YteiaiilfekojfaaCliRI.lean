/- The reference of chapter 27, walked: Invoke. Conditions: the list of commands can be read. -/
import Derived.Test.YteiaiilfekojfaaCliRA
import Derived.Test.YteiaiilfekojfaaCmdMay
namespace Go.Proofs.Yteiaiilfekojfaa.Cli
open Go.RowKit Wire Cmd DrawInv

theorem info_cmd : ∃ i, Try.prog.info? 36 = some i ∧ i.size = 7 ∧ i.zero = some (.agg #[.int .u8 0, .int .u32 0, .int .u8 0, .string ⟨#[]⟩, .string ⟨#[]⟩, .string ⟨#[]⟩, .int .u8 0]) ∧ i.bytes = 72 := by
  cases h : Try.prog.info? 36 with
  | none =>
    have : (Try.prog.info? 36).isSome = true := by kernel_rfl
    rw [h] at this
    cases this
  | some i =>
    have e1 : (Try.prog.info? 36).map (·.size) = some 7 := by kernel_rfl
    have e2 : (Try.prog.info? 36).map (·.zero) = some (some (.agg #[.int .u8 0, .int .u32 0, .int .u8 0, .string ⟨#[]⟩, .string ⟨#[]⟩, .string ⟨#[]⟩, .int .u8 0])) := by kernel_rfl
    have e3 : (Try.prog.info? 36).map (·.bytes) = some 72 := by kernel_rfl
    rw [h] at e1 e2 e3
    exact ⟨i, rfl, Option.some.inj e1, Option.some.inj e2, Option.some.inj e3⟩
theorem own_one (w : World) (t : TypeId) : (w.alloc (.cells #[] t)).ownsRow w.heap.size t 7 (.slice (some ⟨w.heap.size, 0, none⟩) 0 0) 0 [] :=
  ⟨rfl, .inr ⟨_, 0, #[], rfl, Nat.le_refl _, heap_alloc_new w _, Nat.le_refl _, Nat.zero_le _, rfl, rfl⟩⟩
/-- append, told as a row grows. -/
theorem app_any {w : World} {base : Nat} (hb : base ≤ w.heap.size) {v : Value} {l m : List Cm} (ho : w.ownsRow base 36 7 v l.length (l.flatMap cmL)) {A : Option Addr} {c : Nat} (hr : Rows w A 7 cmL m) (hn : l.length + m.length ≤ 1000000) (ty : TypeId) :
    ∃ v' w', (Builtin.append_ #[30, 30] ty #[v, .slice A m.length c]).run Try.prog w = .ok v' w' ∧ w'.ownsRow base 36 7 v' (l ++ m).length ((l ++ m).flatMap cmL) ∧ w.grownBy w' v.ownBlock ∧ (v'.ownBlock = v.ownBlock ∨ v'.ownBlock = some w.heap.size) := by
  obtain ⟨i, hi, hs, hz, hby⟩ := info_cmd
  obtain ⟨v', w', h1, h2, h3, h4⟩ := run_append_any (P := Try.prog) w base 30 ty 36 i _ 7 72 Try.underlying30 hi hz hs hby rfl (by omega) v l.length _ ho w.heap.size A m.length c _ (rows_reads cmL_len (by omega) hr) (flat_one cmL_one m) (by unfold maxLen; omega) (by omega) hb
  exact ⟨v', w', h1, by rw [List.length_append, List.flatMap_append]; exact h2, h3, h4⟩
theorem exec_build1 {P : Program} {w w' : World} {ρ : Operand → Value} {o : Oper} {t : TypeId} {x : Operand} {vx v : Value} (ho : o.op = .buildSlice t 1 #[(0, x)]) (hx : ρ x = vx) (hr : (Instr.buildSlice t 1 #[(0, vx)]).run P w = .ok v w') : (execOp ρ o).run P w = .ok (.value v) w' := by
  unfold execOp
  simp only [ho, hx, List.map_toArray, List.map_cons, List.map_nil, Sem.run_bind, Sem.run_pure, Result.andThen_ok, hr]
theorem build_one (c : Cm) (w : World) : (Instr.buildSlice 30 1 #[(0, cmV c)]).run Try.prog w = .ok (.slice (some ⟨w.heap.size, 0, none⟩) 1 1) (w.alloc (.cells (cmC c) 36)) := by
  obtain ⟨ca, cb, ck, cs, ct, cu, cz⟩ := c
  unfold cmV cmC
  dsimp only
  go_simp
/-- append(append(nil, l...), c): whichever comes first, the clone or the command's own row. -/
theorem app_two {w : World} {l : List Cm} {A : Option Addr} {k : Nat} (hr : Rows w A 7 cmL l) (hl : l.length ≤ 100000) (c : Cm) :
    (∃ v1 w1 g wc v2 w2, (Builtin.append_ #[30, 30] 30 #[.slice none 0 0, .slice A l.length k]).run Try.prog w = .ok v1 w1 ∧
      (Instr.buildSlice 30 1 #[(0, cmV c)]).run Try.prog w1 = .ok (.slice (some ⟨g, 0, none⟩) 1 1) wc ∧
      (Builtin.append_ #[30, 30] 30 #[v1, .slice (some ⟨g, 0, none⟩) 1 1]).run Try.prog wc = .ok v2 w2 ∧
      w2.ownsRow w.heap.size 36 7 v2 (l ++ [c]).length ((l ++ [c]).flatMap cmL) ∧ Below w.heap.size w w2 ∧ Below w.heap.size w w1 ∧ Below w.heap.size w wc) ∧
    (∃ g wc v1 w1 v2 w2, (Instr.buildSlice 30 1 #[(0, cmV c)]).run Try.prog w = .ok (.slice (some ⟨g, 0, none⟩) 1 1) wc ∧
      (Builtin.append_ #[30, 30] 30 #[.slice none 0 0, .slice A l.length k]).run Try.prog wc = .ok v1 w1 ∧
      (Builtin.append_ #[30, 30] 30 #[v1, .slice (some ⟨g, 0, none⟩) 1 1]).run Try.prog w1 = .ok v2 w2 ∧
      w2.ownsRow w.heap.size 36 7 v2 (l ++ [c]).length ((l ++ [c]).flatMap cmL) ∧ Below w.heap.size w w2 ∧ Below w.heap.size w w1 ∧ Below w.heap.size w wc) := by
  constructor
  · obtain ⟨v1, w1, happ1, ho1, hg1, _⟩ := app_any (w := w) (base := w.heap.size) (l := []) (m := l) (Nat.le_refl _) (World.ownsRow_nil _ _ _ _) (c := k) hr (by simp; omega) 30
    rw [List.nil_append] at ho1
    have b1 : Below w.heap.size w w1 := (Below.refl _ w).grown hg1 (Nat.le_refl _) (fun k hk => by cases hk)
    have b2 := b1.alloc b1.size (.cells (cmC c) 36)
    have ho2 := own_below (h0 := w1.heap.size) ho1 ((Below.refl _ w1).alloc (Nat.le_refl _) (.cells (cmC c) 36)) (fun g hg => (ho1.lt g hg).2)
    have hn := cm_row (Blk.new w1 36 (cmC c))
    obtain ⟨v2, w2, happ2, ho3, hg2, _⟩ := app_any (base := w.heap.size) b2.size ho2 hn (c := 1) (by simp; omega) 30
    exact ⟨v1, w1, _, _, v2, w2, happ1, build_one c w1, happ2, ho3, b2.grown hg2 b2.size (fun k hk => (ho2.lt k hk).1), b1, b2⟩
  · have b0 : Below w.heap.size w (w.alloc (.cells (cmC c) 36)) := (Below.refl _ w).alloc (Nat.le_refl _) _
    have hn0 := Blk.new w 36 (cmC c)
    obtain ⟨v1, w1, happ1, ho1, hg1, _⟩ := app_any (w := w.alloc (.cells (cmC c) 36)) (base := w.heap.size) (l := []) (m := l) b0.size (World.ownsRow_nil _ _ _ _) (c := k) (hr.below b0) (by simp; omega) 30
    rw [List.nil_append] at ho1
    have b1 : Below w.heap.size w w1 := b0.grown hg1 b0.size (fun k hk => by cases hk)
    have hn := cm_row (hn0.grown hg1 (fun h => by cases h))
    obtain ⟨v2, w2, happ2, ho3, hg2, _⟩ := app_any (base := w.heap.size) b1.size ho1 hn (c := 1) (by simp; omega) 30
    exact ⟨_, _, v1, w1, v2, w2, build_one c w, happ1, happ2, ho3, b1.grown hg2 b1.size (fun k hk => (ho1.lt k hk).1), b1, b0⟩
theorem st_sl {w : World} {g id n : Nat} {u : Value} {wt : Bool} {dst : Nat} (h : Blk w g 32 #[.int .u8 (id : Int), .int .i64 (n : Int), u, .bool wt, .int .u8 (dst : Int)]) (A : Option Addr) (m k : Nat) : ∃ w', (Instr.storeAt 30 (.pointer (some ⟨g, 2, none⟩)) (.slice A m k)).run Try.prog w = .ok () w' ∧ Blk w' g 32 #[.int .u8 (id : Int), .int .i64 (n : Int), .slice A m k, .bool wt, .int .u8 (dst : Int)] ∧ w.grownBy w' (some g) := by
  have c1 := h.cell 2
  have f1 := h.frozen 2
  refine ⟨_, by go_simp, h.set_ 2 _, only_setCell (World.grownBy.refl _ _) (.inl rfl) _⟩
theorem st_wt {w : World} {g id n m k : Nat} {A : Option Addr} {wt : Bool} {dst : Nat} (h : Blk w g 32 #[.int .u8 (id : Int), .int .i64 (n : Int), .slice A m k, .bool wt, .int .u8 (dst : Int)]) (x : Bool) : ∃ w', (Instr.storeAt 4 (.pointer (some ⟨g, 3, none⟩)) (.bool x)).run Try.prog w = .ok () w' ∧ Blk w' g 32 #[.int .u8 (id : Int), .int .i64 (n : Int), .slice A m k, .bool x, .int .u8 (dst : Int)] ∧ w.grownBy w' (some g) := by
  have c1 := h.cell 3
  have f1 := h.frozen 3
  refine ⟨_, by go_simp, h.set_ 3 _, only_setCell (World.grownBy.refl _ _) (.inl rfl) _⟩
theorem ld_l2 {w : World} {g id n m k : Nat} {A : Option Addr} {wt : Bool} {dst : Nat} (h : Blk w g 32 #[.int .u8 (id : Int), .int .i64 (n : Int), .slice A m k, .bool wt, .int .u8 (dst : Int)]) : (Instr.loadAt 30 (.pointer (some ⟨g, 2, none⟩))).run Try.prog w = .ok (.slice A m k) w := by
  have c1 := h.cell 2
  go_simp
theorem rows_grown {w w' : World} {g : Nat} {A : Option Addr} {L : List Cm} (h : Rows w A 7 cmL L) (hg : w.grownBy w' (some g)) (hA : ∀ ad, A = some ad → ad.block ≠ g) : Rows w' A 7 cmL L := by
  intro k x hx
  obtain ⟨ad, e, hb, hc⟩ := h k x hx
  exact ⟨ad, e, Nat.lt_of_lt_of_le hb hg.size, fun j v hv => (World.cell?_of_block (hg.block _ (by rw [block_of_add]; exact hb) (by rw [block_of_add]; exact fun e2 => hA ad e (Option.some.inj e2)))).trans (hc j v hv)⟩
theorem st_cli {w : World} {g xb xk xz : Nat} {xs xt xu : List UInt8} {a : Value} (h : Blk w g 36 #[a, .int .u32 (xb : Int), .int .u8 (xk : Int), .string ⟨xs.toArray⟩, .string ⟨xt.toArray⟩, .string ⟨xu.toArray⟩, .int .u8 (xz : Int)]) (x : Int) : ∃ w', (Instr.storeAt 5 (.pointer (some ⟨g, 0, none⟩)) (.int .u8 x)).run Try.prog w = .ok () w' ∧ Blk w' g 36 #[.int .u8 x, .int .u32 (xb : Int), .int .u8 (xk : Int), .string ⟨xs.toArray⟩, .string ⟨xt.toArray⟩, .string ⟨xu.toArray⟩, .int .u8 (xz : Int)] ∧ w.grownBy w' (some g) := by
  have c1 := h.cell 0
  have f1 := h.frozen 0
  refine ⟨_, by go_simp, h.set_ 0 _, only_setCell (World.grownBy.refl _ _) (.inl rfl) _⟩
theorem st_seq {w : World} {g xk xz : Nat} {xb : Int} {xs xt xu : List UInt8} {a : Value} (h : Blk w g 36 #[a, .int .u32 xb, .int .u8 (xk : Int), .string ⟨xs.toArray⟩, .string ⟨xt.toArray⟩, .string ⟨xu.toArray⟩, .int .u8 (xz : Int)]) (x : Int) : ∃ w', (Instr.storeAt 34 (.pointer (some ⟨g, 1, none⟩)) (.int .u32 x)).run Try.prog w = .ok () w' ∧ Blk w' g 36 #[a, .int .u32 x, .int .u8 (xk : Int), .string ⟨xs.toArray⟩, .string ⟨xt.toArray⟩, .string ⟨xu.toArray⟩, .int .u8 (xz : Int)] ∧ w.grownBy w' (some g) := by
  have c1 := h.cell 1
  have f1 := h.frozen 1
  refine ⟨_, by go_simp, h.set_ 1 _, only_setCell (World.grownBy.refl _ _) (.inl rfl) _⟩
/-- What a client's list is behind a call: the elder one, or one in new memory. -/
def InvRet (r : Rc) (c : Cm) (w : World) (e : Ending) (w' : World) : Prop := ∃ A' k', e = .returned (.tuple #[.agg (rcC (invR r c).1 A' k'), ltV (invR r c).2.1, .int .i64 ((invR r c).2.2 : Int)]) ∧ Rows w' A' 7 cmL (invR r c).1.L ∧ Below w.heap.size w w'
set_option linter.unusedSimpArgs false in
set_option linter.unusedVariables false in
set_option maxRecDepth 100000 in
set_option maxHeartbeats 2000000 in
theorem rinvoke_any (r : Rc) (h4 : r.id < 4) (m : Nat) (hm : r.L.length = m) (hm3 : m ≤ 900) (A : Option Addr) (k : Nat) (w : World) (hr : Rows w A 7 cmL r.L) (c : Cm) : Calls Try.prog 14 #[.agg (rcC r A k), cmV c] w fun e w' => InvRet r c w e w' := by
  have HRW := Lib.hid hr
  have HM := Lib.hid hm
  obtain ⟨id, n, L, wt, dst⟩ := r
  obtain ⟨xa, xb, xk, xs, xt, xu, xz⟩ := c
  unfold rcC cmV cmC
  dsimp only at HRW HM h4 hm ⊢
  rw [hm]
  obtain ⟨gx, hgx⟩ : ∃ g, g = w.heap.size := ⟨_, rfl⟩
  obtain ⟨gc, hgc⟩ : ∃ g, g = w.heap.size + 1 := ⟨_, rfl⟩
  obtain ⟨gr, hgr⟩ : ∃ g, g = w.heap.size + 1 + 1 := ⟨_, rfl⟩
  obtain ⟨gl, hgl⟩ : ∃ g, g = w.heap.size + 1 + 1 + 1 := ⟨_, rfl⟩
  obtain ⟨w1, hw1⟩ : ∃ W, W = w.alloc (.cells #[.int .u8 (id : Int), .int .i64 (n : Int), .slice A m k, .bool wt, .int .u8 (dst : Int)] 32) := ⟨_, rfl⟩
  obtain ⟨w2, hw2⟩ : ∃ W, W = w1.alloc (.cells #[.int .u8 (xa : Int), .int .u32 (xb : Int), .int .u8 (xk : Int), .string ⟨xs.toArray⟩, .string ⟨xt.toArray⟩, .string ⟨xu.toArray⟩, .int .u8 (xz : Int)] 36) := ⟨_, rfl⟩
  obtain ⟨w3, hw3⟩ : ∃ W, W = w2.alloc (.cells #[.int .u8 0, .int .i64 0, .slice none 0 0, .bool false, .int .u8 0] 32) := ⟨_, rfl⟩
  obtain ⟨wA, hwA⟩ : ∃ W, W = w3.alloc (.cells #[.int .u8 0, .int .u8 0, .int .u8 0, .int .u64 0, .int .u8 0, .int .u64 0, .int .u64 0, .int .u8 0, .string ⟨#[]⟩, .slice none 0 0, .slice none 0 0, .int .u8 0, .int .u32 0, .int .u8 0, .string ⟨#[]⟩, .string ⟨#[]⟩, .string ⟨#[]⟩, .int .u8 0, .int .u8 0, .string ⟨#[]⟩] 47) := ⟨_, rfl⟩
  have hs1 : w1.heap.size = gc := by rw [hw1, hgc, World.alloc, Array.size_push]
  have hs2 : w2.heap.size = gr := by rw [hw2, hgr, World.alloc, Array.size_push, hs1, hgc]
  have hs3 : w3.heap.size = gl := by rw [hw3, hgl, World.alloc, Array.size_push, hs2, hgr]
  have b1 : Below w.heap.size w w1 := by rw [hw1]; exact (Below.refl _ w).alloc (Nat.le_refl _) _
  have b2 : Below w.heap.size w w2 := by rw [hw2]; exact b1.alloc b1.size _
  have b3 : Below w.heap.size w w3 := by rw [hw3]; exact b2.alloc b2.size _
  have bw : Below w.heap.size w wA := by rw [hwA]; exact b3.alloc b3.size _
  have kx : Blk wA gx 32 #[.int .u8 (id : Int), .int .i64 (n : Int), .slice A m k, .bool wt, .int .u8 (dst : Int)] := by rw [hwA, hw3, hw2, hw1, hgx]; exact (((Blk.new w 32 #[.int .u8 (id : Int), .int .i64 (n : Int), .slice A m k, .bool wt, .int .u8 (dst : Int)]).alloc _).alloc _).alloc _
  have kc : Blk wA gc 36 #[.int .u8 (xa : Int), .int .u32 (xb : Int), .int .u8 (xk : Int), .string ⟨xs.toArray⟩, .string ⟨xt.toArray⟩, .string ⟨xu.toArray⟩, .int .u8 (xz : Int)] := by rw [hwA, hw3, hw2, ← hs1]; exact ((Blk.new w1 36 #[.int .u8 (xa : Int), .int .u32 (xb : Int), .int .u8 (xk : Int), .string ⟨xs.toArray⟩, .string ⟨xt.toArray⟩, .string ⟨xu.toArray⟩, .int .u8 (xz : Int)]).alloc _).alloc _
  have kr : Blk wA gr 32 #[.int .u8 0, .int .i64 0, .slice none 0 0, .bool false, .int .u8 0] := by rw [hwA, hw3, ← hs2]; exact (Blk.new w2 32 #[.int .u8 0, .int .i64 0, .slice none 0 0, .bool false, .int .u8 0]).alloc _
  have kl : Blk wA gl 47 #[.int .u8 0, .int .u8 0, .int .u8 0, .int .u64 0, .int .u8 0, .int .u64 0, .int .u64 0, .int .u8 0, .string ⟨#[]⟩, .slice none 0 0, .slice none 0 0, .int .u8 0, .int .u32 0, .int .u8 0, .string ⟨#[]⟩, .string ⟨#[]⟩, .string ⟨#[]⟩, .int .u8 0, .int .u8 0, .string ⟨#[]⟩] := by rw [hwA, ← hs3]; exact Blk.new w3 47 #[.int .u8 0, .int .u8 0, .int .u8 0, .int .u64 0, .int .u8 0, .int .u64 0, .int .u64 0, .int .u8 0, .string ⟨#[]⟩, .slice none 0 0, .slice none 0 0, .int .u8 0, .int .u32 0, .int .u8 0, .string ⟨#[]⟩, .string ⟨#[]⟩, .string ⟨#[]⟩, .int .u8 0, .int .u8 0, .string ⟨#[]⟩]
  have hup : Hid ((((w.alloc (.cells #[.int .u8 (id : Int), .int .i64 (n : Int), .slice A m k, .bool wt, .int .u8 (dst : Int)] 32)).alloc (.cells #[.int .u8 (xa : Int), .int .u32 (xb : Int), .int .u8 (xk : Int), .string ⟨xs.toArray⟩, .string ⟨xt.toArray⟩, .string ⟨xu.toArray⟩, .int .u8 (xz : Int)] 36)).alloc (.cells #[.int .u8 0, .int .i64 0, .slice none 0 0, .bool false, .int .u8 0] 32)).alloc (.cells #[.int .u8 0, .int .u8 0, .int .u8 0, .int .u64 0, .int .u8 0, .int .u64 0, .int .u64 0, .int .u8 0, .string ⟨#[]⟩, .slice none 0 0, .slice none 0 0, .int .u8 0, .int .u32 0, .int .u8 0, .string ⟨#[]⟩, .string ⟨#[]⟩, .string ⟨#[]⟩, .int .u8 0, .int .u8 0, .string ⟨#[]⟩] 47) = wA) := by show _ = _; rw [hwA, hw3, hw2, hw1]
  have hug : Hid (w.heap.size = gx ∧ w.heap.size + 1 = gc ∧ w.heap.size + 1 + 1 = gr ∧ w.heap.size + 1 + 1 + 1 = gl) := ⟨hgx.symm, hgc.symm, hgr.symm, hgl.symm⟩
  have hug2 : Hid (w.heap.size + 2 = gr ∧ w.heap.size + 3 = gl) := ⟨hgr.symm, hgl.symm⟩
  have HGL : Hid (w.heap.size ≤ gx ∧ w.heap.size ≤ gc ∧ w.heap.size ≤ gr ∧ w.heap.size ≤ gl ∧ gx ≠ gc ∧ gx ≠ gr ∧ gx ≠ gl ∧ gc ≠ gr ∧ gc ≠ gl ∧ gr ≠ gl) := by show _ ∧ _; omega
  clear hwA hw3 hw2 hw1 hs1 hs2 hs3 hgx hgc hgr hgl b1 b2 b3 hr
  have x0 := kx.cell 0
  have x1 := kx.cell 1
  have x2 := kx.cell 2
  have x3 := kx.cell 3
  have x4 := kx.cell 4
  cases wt
  rotate_left
  · obtain ⟨wB, hst1, kr1, hg1⟩ := st_rc kr rfl id n A m k true dst
    have kl1 : Blk wB gl 47 _ := kl.grown hg1 (fun h => HGL.out.2.2.2.2.2.2.2.2.2 (Option.some.inj h).symm)
    obtain ⟨wC, hst2, kl2, hg2⟩ := st_l0 kl1 rfl
    have kr2 : Blk wC gr 32 _ := kr1.grown hg2 (fun h => HGL.out.2.2.2.2.2.2.2.2.2 (Option.some.inj h))
    have b1 := bw.grown hg1 bw.size (fun k hk => by cases hk; exact HGL.out.2.2.1)
    have b2 := b1.grown hg2 b1.size (fun k hk => by cases hk; exact HGL.out.2.2.2.1)
    have HLD1 := Lib.hid (blk_loadVar (P := Try.prog) (ty := 32) kr2 Try.underlying32 rfl size_rc)
    have HLD2 := Lib.hid (blk_loadVar (P := Try.prog) (ty := 47) kl2 Try.underlying47 rfl size_lt)
    have HQ : Hid (InvRet ⟨id, n, L, true, dst⟩ ⟨xa, xb, xk, xs, xt, xu, xz⟩ w (.returned (.tuple #[.agg #[.int .u8 (id : Int), .int .i64 (n : Int), .slice A m k, .bool true, .int .u8 (dst : Int)], .agg #[.int .u8 0, .int .u8 0, .int .u8 0, .int .u64 0, .int .u8 0, .int .u64 0, .int .u64 0, .int .u8 0, .string ⟨#[]⟩, .slice none 0 0, .slice none 0 0, .int .u8 0, .int .u32 0, .int .u8 0, .string ⟨#[]⟩, .string ⟨#[]⟩, .string ⟨#[]⟩, .int .u8 0, .int .u8 0, .string ⟨#[]⟩], .int .i64 13])) wC) := ⟨A, k, by rw [← hm]; rfl, HRW.out.below b2, b2⟩
    clear kx kc kr kl bw kr1 hg1 kl1 kl2 hg2 kr2 b1 b2
    go_enter Try.func14, Try.ntmps14
    go_upto_region 1 with fail
    rw [show (((w.alloc (.cells #[.int .u8 (id : Int), .int .i64 (n : Int), .slice A m k, .bool true, .int .u8 (dst : Int)] 32)).alloc (.cells #[.int .u8 (xa : Int), .int .u32 (xb : Int), .int .u8 (xk : Int), .string ⟨xs.toArray⟩, .string ⟨xt.toArray⟩, .string ⟨xu.toArray⟩, .int .u8 (xz : Int)] 36)).alloc (.cells #[.int .u8 0, .int .i64 0, .slice none 0 0, .bool false, .int .u8 0] 32)).alloc (.cells #[.int .u8 0, .int .u8 0, .int .u8 0, .int .u64 0, .int .u8 0, .int .u64 0, .int .u64 0, .int .u8 0, .string ⟨#[]⟩, .slice none 0 0, .slice none 0 0, .int .u8 0, .int .u32 0, .int .u8 0, .string ⟨#[]⟩, .string ⟨#[]⟩, .string ⟨#[]⟩, .int .u8 0, .int .u8 0, .string ⟨#[]⟩] 47) = wA from hup.out]
    first | rw [hug.out.2.2.2] | rw [hug2.out.2]
    first | rw [hug.out.2.2.1] | rw [hug2.out.1]
    rw [hug.out.2.1, hug.out.1]
    go_wp2_with (first | refine wpList_store (by rfl) (.tmp 4) (.tmp 9) (by rfl) (by rfl) (by rfl) hst1 ?_ | refine wpList_store (by rfl) (.tmp 5) (.tmp 10) (by rfl) (by rfl) (by rfl) hst2 ?_)
    exact bodyPost_ret (v := .tuple #[.agg #[.int .u8 (id : Int), .int .i64 (n : Int), .slice A m k, .bool true, .int .u8 (dst : Int)], .agg #[.int .u8 0, .int .u8 0, .int .u8 0, .int .u64 0, .int .u8 0, .int .u64 0, .int .u64 0, .int .u8 0, .string ⟨#[]⟩, .slice none 0 0, .slice none 0 0, .int .u8 0, .int .u32 0, .int .u8 0, .string ⟨#[]⟩, .string ⟨#[]⟩, .string ⟨#[]⟩, .int .u8 0, .int .u8 0, .string ⟨#[]⟩], .int .i64 13]) (by simp [results, Try.results14, asAddr, HLD1.out, HLD2.out, Act.put]) rfl HQ.out
  obtain ⟨sq, hsq⟩ : ∃ q, q = m + 1 := ⟨_, rfl⟩
  have hw1 : IntKind.u32.wrap (m : Int) = (m : Int) := by rw [IntKind.wrap_u32]; omega
  have hw2 : IntKind.u32.wrap ((m : Int) + 1) = (sq : Int) := by rw [IntKind.wrap_u32, hsq]; omega
  have hw3 : (m : Int) + 1 = (sq : Int) := by omega
  have HSQ := Lib.hid hsq
  obtain ⟨wB, hst1, kc1, hg1⟩ := st_cli kc (id : Int)
  obtain ⟨wC, hst2, kc2, hg2⟩ := st_seq kc1 (sq : Int)
  have bB := bw.grown hg1 bw.size (fun k hk => by cases hk; exact HGL.out.2.1)
  have bC := bB.grown hg2 bB.size (fun k hk => by cases hk; exact HGL.out.2.1)
  have kx1 : Blk wB gx 32 _ := kx.grown hg1 (fun h => HGL.out.2.2.2.2.1 (Option.some.inj h))
  have kx2 : Blk wC gx 32 _ := kx1.grown hg2 (fun h => HGL.out.2.2.2.2.1 (Option.some.inj h))
  have kr2 : Blk wC gr 32 _ := (kr.grown hg1 (fun h => HGL.out.2.2.2.2.2.2.2.1 (Option.some.inj h).symm)).grown hg2 (fun h => HGL.out.2.2.2.2.2.2.2.1 (Option.some.inj h).symm)
  have kl2 : Blk wC gl 47 _ := (kl.grown hg1 (fun h => HGL.out.2.2.2.2.2.2.2.2.1 (Option.some.inj h).symm)).grown hg2 (fun h => HGL.out.2.2.2.2.2.2.2.2.1 (Option.some.inj h).symm)
  have y2 := kx1.cell 2
  have z0 := kc2.cell 0
  have z1 := kc2.cell 1
  have z2 := kc2.cell 2
  have z3 := kc2.cell 3
  have z4 := kc2.cell 4
  have z5 := kc2.cell 5
  have z6 := kc2.cell 6
  have HMY := Lib.hid (refMay_any (stampR ⟨id, n, L, false, dst⟩ ⟨xa, xb, xk, xs, xt, xu, xz⟩) wC)
  unfold stampR cmV cmC at HMY
  dsimp only at HMY
  rw [hm, ← hsq] at HMY
  clear kx kc kr kl kc1 hg1 hg2 bw bB kx1
  cases hmb : mayB ⟨id, sq, xk, xs, xt, xu, xz⟩
  · rw [hmb] at HMY
    have hinv : invR ⟨id, n, L, false, dst⟩ ⟨xa, xb, xk, xs, xt, xu, xz⟩ = (⟨id, n, L, false, dst⟩, lt0, 2) := by unfold invR stampR; dsimp only; rw [hm, ← hsq, hmb]; rfl
    have HIV := Lib.hid hinv
    clear hmb hinv hsq hm
    go_enter Try.func14, Try.ntmps14
    go_upto_region 1 with fail
    rw [show (((w.alloc (.cells #[.int .u8 (id : Int), .int .i64 (n : Int), .slice A m k, .bool false, .int .u8 (dst : Int)] 32)).alloc (.cells #[.int .u8 (xa : Int), .int .u32 (xb : Int), .int .u8 (xk : Int), .string ⟨xs.toArray⟩, .string ⟨xt.toArray⟩, .string ⟨xu.toArray⟩, .int .u8 (xz : Int)] 36)).alloc (.cells #[.int .u8 0, .int .i64 0, .slice none 0 0, .bool false, .int .u8 0] 32)).alloc (.cells #[.int .u8 0, .int .u8 0, .int .u8 0, .int .u64 0, .int .u8 0, .int .u64 0, .int .u64 0, .int .u8 0, .string ⟨#[]⟩, .slice none 0 0, .slice none 0 0, .int .u8 0, .int .u32 0, .int .u8 0, .string ⟨#[]⟩, .string ⟨#[]⟩, .string ⟨#[]⟩, .int .u8 0, .int .u8 0, .string ⟨#[]⟩] 47) = wA from hup.out]
    first | rw [hug.out.2.2.2] | rw [hug2.out.2]
    first | rw [hug.out.2.2.1] | rw [hug2.out.1]
    rw [hug.out.2.1, hug.out.1]
    go_upto_region 5 with (first | refine wpList_store (by rfl) (.tmp 13) (.tmp 12) (by rfl) (by rfl) (by rfl) hst1 ?_ | refine wpList_store (by rfl) (.tmp 19) (.tmp 18) (by rfl) (by rfl) (by rfl) hst2 ?_)
    clear hst1 hst2 x0 x1 x2 x3 x4 y2 hw1 hw2 hw3
    go_wp2_with fail
    refine HMY.out.mono ?_; rintro e w4 ⟨rfl, B4⟩
    have b4 := bC.trans (B4.mono bC.size)
    have kx4 := kx2.below B4 kx2.lt
    obtain ⟨wD, hst3, kr5, hg3⟩ := st_rc (kr2.below B4 kr2.lt) rfl id n A m k false dst
    have kl5 : Blk wD gl 47 _ := (kl2.below B4 kl2.lt).grown hg3 (fun h => HGL.out.2.2.2.2.2.2.2.2.2 (Option.some.inj h).symm)
    obtain ⟨wE, hst4, kl6, hg4⟩ := st_l0 kl5 rfl
    have kr6 : Blk wE gr 32 _ := kr5.grown hg4 (fun h => HGL.out.2.2.2.2.2.2.2.2.2 (Option.some.inj h))
    have b5 := b4.grown hg3 b4.size (fun k hk => by cases hk; exact HGL.out.2.2.1)
    have b6 := b5.grown hg4 b5.size (fun k hk => by cases hk; exact HGL.out.2.2.2.1)
    have HLD1 := Lib.hid (blk_loadVar (P := Try.prog) (ty := 32) kr6 Try.underlying32 rfl size_rc)
    have HLD2 := Lib.hid (blk_loadVar (P := Try.prog) (ty := 47) kl6 Try.underlying47 rfl size_lt)
    have HQ : Hid (InvRet ⟨id, n, L, false, dst⟩ ⟨xa, xb, xk, xs, xt, xu, xz⟩ w (.returned (.tuple #[.agg #[.int .u8 (id : Int), .int .i64 (n : Int), .slice A m k, .bool false, .int .u8 (dst : Int)], .agg #[.int .u8 0, .int .u8 0, .int .u8 0, .int .u64 0, .int .u8 0, .int .u64 0, .int .u64 0, .int .u8 0, .string ⟨#[]⟩, .slice none 0 0, .slice none 0 0, .int .u8 0, .int .u32 0, .int .u8 0, .string ⟨#[]⟩, .string ⟨#[]⟩, .string ⟨#[]⟩, .int .u8 0, .int .u8 0, .string ⟨#[]⟩], .int .i64 2])) wE) := by
      show InvRet _ _ _ _ _
      unfold InvRet
      rw [HIV.out]
      exact ⟨A, k, by rw [← HM.out]; rfl, HRW.out.below b6, b6⟩
    have x0 := kx4.cell 0
    have x1 := kx4.cell 1
    have x2 := kx4.cell 2
    have x3 := kx4.cell 3
    have x4 := kx4.cell 4
    clear HMY B4 b4 kx4 kr2 kl2 kx2 kc2 kr5 kl5 kl6 kr6 hg3 hg4 b5 b6 bC z0 z1 z2 z3 z4 z5 z6
    go_wp2_with (first | refine wpList_store (by rfl) (.tmp 4) (.tmp 23) (by rfl) (by rfl) (by rfl) hst3 ?_ | refine wpList_store (by rfl) (.tmp 5) (.tmp 24) (by rfl) (by rfl) (by rfl) hst4 ?_)
    exact bodyPost_ret (v := .tuple #[.agg #[.int .u8 (id : Int), .int .i64 (n : Int), .slice A m k, .bool false, .int .u8 (dst : Int)], .agg #[.int .u8 0, .int .u8 0, .int .u8 0, .int .u64 0, .int .u8 0, .int .u64 0, .int .u64 0, .int .u8 0, .string ⟨#[]⟩, .slice none 0 0, .slice none 0 0, .int .u8 0, .int .u32 0, .int .u8 0, .string ⟨#[]⟩, .string ⟨#[]⟩, .string ⟨#[]⟩, .int .u8 0, .int .u8 0, .string ⟨#[]⟩], .int .i64 2]) (by simp [results, Try.results14, asAddr, HLD1.out, HLD2.out, Act.put]) rfl HQ.out
  · rw [hmb] at HMY
    have hinv : invR ⟨id, n, L, false, dst⟩ ⟨xa, xb, xk, xs, xt, xu, xz⟩ = (⟨id, n, L ++ [⟨id, sq, xk, xs, xt, xu, xz⟩], true, dst⟩, askR ⟨id, n, L ++ [⟨id, sq, xk, xs, xt, xu, xz⟩], true, dst⟩, 0) := by unfold invR stampR; dsimp only; rw [hm, ← hsq, hmb]; rfl
    have HIV := Lib.hid hinv
    have HAPP := Lib.hid (fun (W : World) (h : Rows W A 7 cmL L) => app_two (k := k) h (by omega) (⟨id, sq, xk, xs, xt, xu, xz⟩ : Cm))
    have hl2 : (L ++ [(⟨id, sq, xk, xs, xt, xu, xz⟩ : Cm)]).length = sq := by simp; omega
    rw [hm] at HAPP
    unfold cmV cmC at HAPP
    dsimp only at HAPP
    have HL2 := Lib.hid hl2
    have hsq9 : sq ≤ 901 := by omega
    have HAK := Lib.hid (fun (W : World) (A2 : Option Addr) (k2 : Nat) (h : Rows W A2 7 cmL (L ++ [⟨id, sq, xk, xs, xt, xu, xz⟩])) => rasks_any ⟨id, n, L ++ [⟨id, sq, xk, xs, xt, xu, xz⟩], true, dst⟩ h4 sq hl2 (by omega) A2 k2 W h)
    unfold askR at HAK
    dsimp only at HAK
    rw [last_snoc] at HAK
    have HAKW : Hid (∀ (W : World) (A2 : Option Addr) (k2 : Nat), Rows W A2 7 cmL (L ++ [⟨id, sq, xk, xs, xt, xu, xz⟩]) → Calls Try.prog 34 #[.agg #[.int .u8 (id : Int), .int .i64 (n : Int), .slice A2 sq k2, .bool true, .int .u8 (dst : Int)]] W fun e w' => e = .returned (.agg #[.int .u8 (16 + (id : Int)), .int .u8 (dst : Int), .int .u8 1, .int .u64 0, .int .u8 0, .int .u64 0, .int .u64 0, .int .u8 0, .string ⟨#[]⟩, .slice none 0 0, .slice none 0 0, .int .u8 (id : Int), .int .u32 (sq : Int), .int .u8 (xk : Int), .string ⟨xs.toArray⟩, .string ⟨xt.toArray⟩, .string ⟨xu.toArray⟩, .int .u8 (xz : Int), .int .u8 0, .string ⟨#[]⟩]) ∧ Below W.heap.size W w') := HAK.out
    clear hmb hinv hsq hm HAK hl2
    go_enter Try.func14, Try.ntmps14
    go_upto_region 1 with fail
    rw [show (((w.alloc (.cells #[.int .u8 (id : Int), .int .i64 (n : Int), .slice A m k, .bool false, .int .u8 (dst : Int)] 32)).alloc (.cells #[.int .u8 (xa : Int), .int .u32 (xb : Int), .int .u8 (xk : Int), .string ⟨xs.toArray⟩, .string ⟨xt.toArray⟩, .string ⟨xu.toArray⟩, .int .u8 (xz : Int)] 36)).alloc (.cells #[.int .u8 0, .int .i64 0, .slice none 0 0, .bool false, .int .u8 0] 32)).alloc (.cells #[.int .u8 0, .int .u8 0, .int .u8 0, .int .u64 0, .int .u8 0, .int .u64 0, .int .u64 0, .int .u8 0, .string ⟨#[]⟩, .slice none 0 0, .slice none 0 0, .int .u8 0, .int .u32 0, .int .u8 0, .string ⟨#[]⟩, .string ⟨#[]⟩, .string ⟨#[]⟩, .int .u8 0, .int .u8 0, .string ⟨#[]⟩] 47) = wA from hup.out]
    first | rw [hug.out.2.2.2] | rw [hug2.out.2]
    first | rw [hug.out.2.2.1] | rw [hug2.out.1]
    rw [hug.out.2.1, hug.out.1]
    go_upto_region 5 with (first | refine wpList_store (by rfl) (.tmp 13) (.tmp 12) (by rfl) (by rfl) (by rfl) hst1 ?_ | refine wpList_store (by rfl) (.tmp 19) (.tmp 18) (by rfl) (by rfl) (by rfl) hst2 ?_)
    clear hst1 hst2 x0 x1 x2 x3 x4 y2 hw1 hw2 hw3
    go_wp2_with fail
    refine HMY.out.mono ?_; rintro e w4 ⟨rfl, B4⟩
    have b4 := bC.trans (B4.mono bC.size)
    have kx4 := kx2.below B4 kx2.lt
    have kc4 := kc2.below B4 kc2.lt
    have kr4 := kr2.below B4 kr2.lt
    have kl4 := kl2.below B4 kl2.lt
    have hr4 := HRW.out.below b4
    clear HMY B4 kr2 kl2 kx2 kc2 bC z0 z1 z2 z3 z4 z5 z6
    go_upto_region 7 with fail
    have hx : Blk w4.drew gx 32 #[.int .u8 (id : Int), .int .i64 (n : Int), .slice A m k, .bool false, .int .u8 (dst : Int)] ∧ Blk w4.drew gc 36 #[.int .u8 (id : Int), .int .u32 (sq : Int), .int .u8 (xk : Int), .string ⟨xs.toArray⟩, .string ⟨xt.toArray⟩, .string ⟨xu.toArray⟩, .int .u8 (xz : Int)] := ⟨kx4, kc4⟩
    have hrd : Rows w4.drew A 7 cmL L := hr4
    obtain ⟨⟨v1, wB, gB, wBc, v2, wE, a1, ab, a2, a3, a4, a5, a6⟩, ⟨gC, wC, v1', wC', v2', wE', bb, b1, b2, b3, b4', b5, b6⟩⟩ := HAPP.out w4.drew hrd
    obtain ⟨A2, k2, rfl, _, hra, hba⟩ := own_rows_at cmL_len (by omega) a3
    obtain ⟨A2', k2', rfl, _, hrb, hbb⟩ := own_rows_at cmL_len (by omega) b3
    rw [HL2.out] at a2 b2
    have bwd := b4.drew
    have hx1 := And.intro (hx.1.below a5 hx.1.lt) (hx.2.below a5 hx.2.lt)
    have hx2 := And.intro (hx.1.below a6 hx.1.lt) (hx.2.below a6 hx.2.lt)
    have hx3 := And.intro (hx.1.below a4 hx.1.lt) (hx.2.below a4 hx.2.lt)
    have hx4 := And.intro (hx.1.below b6 hx.1.lt) (hx.2.below b6 hx.2.lt)
    have hx5 := And.intro (hx.1.below b5 hx.1.lt) (hx.2.below b5 hx.2.lt)
    have hx6 := And.intro (hx.1.below b4' hx.1.lt) (hx.2.below b4' hx.2.lt)
    have l26a := ld_l2 hx.1
    have l26b := ld_l2 hx4.1
    obtain ⟨wF, sa, kxa, hga⟩ := st_sl hx3.1 A2 sq k2
    obtain ⟨wF', sb, kxb, hgb⟩ := st_sl hx6.1 A2' sq k2'
    have hlt := hx.1.lt
    have hszz : w4.drew.heap.size = w4.heap.size := rfl
    have HQX : Hid (∀ (A2 : Option Addr) (k2 : Nat) (wE wF : World), wE.ownsRow w4.drew.heap.size 36 7 (.slice A2 (L ++ [(⟨id, sq, xk, xs, xt, xu, xz⟩ : Cm)]).length k2) (L ++ [(⟨id, sq, xk, xs, xt, xu, xz⟩ : Cm)]).length ((L ++ [(⟨id, sq, xk, xs, xt, xu, xz⟩ : Cm)]).flatMap cmL) → Below w4.drew.heap.size w4.drew wE → wE.grownBy wF (some gx) → Blk wF gx 32 #[.int .u8 (id : Int), .int .i64 (n : Int), .slice A2 sq k2, .bool false, .int .u8 (dst : Int)] → ∃ A2 k2, Blk wF gx 32 #[.int .u8 (id : Int), .int .i64 (n : Int), .slice A2 sq k2, .bool false, .int .u8 (dst : Int)] ∧ Blk wF gr 32 #[.int .u8 0, .int .i64 0, .slice none 0 0, .bool false, .int .u8 0] ∧ Blk wF gl 47 #[.int .u8 0, .int .u8 0, .int .u8 0, .int .u64 0, .int .u8 0, .int .u64 0, .int .u64 0, .int .u8 0, .string ⟨#[]⟩, .slice none 0 0, .slice none 0 0, .int .u8 0, .int .u32 0, .int .u8 0, .string ⟨#[]⟩, .string ⟨#[]⟩, .string ⟨#[]⟩, .int .u8 0, .int .u8 0, .string ⟨#[]⟩] ∧ Hid (Rows wF A2 7 cmL (L ++ [(⟨id, sq, xk, xs, xt, xu, xz⟩ : Cm)]) ∧ ∀ ad, A2 = some ad → ad.block ≠ gx ∧ ad.block ≠ gr ∧ ad.block ≠ gl) ∧ Below w.heap.size w wF) := fun A2 k2 wE wF a3 a4 hga kxa => by
      have o2 := own_grown2 a3 hga (fun r hr he => by have h1 := (a3.lt r hr).1; have := Option.some.inj he; omega)
      obtain ⟨A9, c9, e9, _, hr9, hb9⟩ := own_rows_at cmL_len (by omega) o2
      obtain ⟨rfl, -, rfl⟩ := Value.slice.inj e9
      have kr5 : Blk wE gr 32 _ := (show Blk w4.drew gr 32 _ from kr4).below a4 kr4.lt
      have kl5 : Blk wE gl 47 _ := (show Blk w4.drew gl 47 _ from kl4).below a4 kl4.lt
      exact ⟨A2, k2, kxa, kr5.grown hga (fun h => HGL.out.2.2.2.2.2.1 (Option.some.inj h).symm), kl5.grown hga (fun h => HGL.out.2.2.2.2.2.2.1 (Option.some.inj h).symm), ⟨hr9, fun ad e => by have h1 := hb9 ad e; have h2 := kr4.lt; have h3 := kl4.lt; omega⟩, (bwd.trans (a4.mono bwd.size)).grown hga (Nat.le_trans bwd.size a4.size) (fun k hk => by cases hk; exact HGL.out.1)⟩
    have HQA := Lib.hid (HQX.out A2 k2 wE wF a3 a4 hga kxa)
    have HQB := Lib.hid (HQX.out A2' k2' wE' wF' b3 b4' hgb kxb)
    have hcA : Blk wF gc 36 #[.int .u8 (id : Int), .int .u32 (sq : Int), .int .u8 (xk : Int), .string ⟨xs.toArray⟩, .string ⟨xt.toArray⟩, .string ⟨xu.toArray⟩, .int .u8 (xz : Int)] := hx3.2.grown hga (fun h => HGL.out.2.2.2.2.1 (Option.some.inj h).symm)
    have hcB : Blk wF' gc 36 #[.int .u8 (id : Int), .int .u32 (sq : Int), .int .u8 (xk : Int), .string ⟨xs.toArray⟩, .string ⟨xt.toArray⟩, .string ⟨xu.toArray⟩, .int .u8 (xz : Int)] := hx6.2.grown hgb (fun h => HGL.out.2.2.2.2.1 (Option.some.inj h).symm)
    clear a3 a4 a5 a6 b3 b4' b5 b6 hra hrb hba hbb hga hgb HQX bwd hrd hr4 b4 kr4 kl4 kx4 kc4
    go_cut [] (fun wx => ∃ A2 k2, Blk wx gx 32 #[.int .u8 (id : Int), .int .i64 (n : Int), .slice A2 sq k2, .bool false, .int .u8 (dst : Int)] ∧ Blk wx gr 32 #[.int .u8 0, .int .i64 0, .slice none 0 0, .bool false, .int .u8 0] ∧ Blk wx gl 47 #[.int .u8 0, .int .u8 0, .int .u8 0, .int .u64 0, .int .u8 0, .int .u64 0, .int .u64 0, .int .u8 0, .string ⟨#[]⟩, .slice none 0 0, .slice none 0 0, .int .u8 0, .int .u32 0, .int .u8 0, .string ⟨#[]⟩, .string ⟨#[]⟩, .string ⟨#[]⟩, .int .u8 0, .int .u8 0, .string ⟨#[]⟩] ∧ Hid (Rows wx A2 7 cmL (L ++ [(⟨id, sq, xk, xs, xt, xu, xz⟩ : Cm)]) ∧ ∀ ad, A2 = some ad → ad.block ≠ gx ∧ ad.block ≠ gr ∧ ad.block ≠ gl) ∧ Below w.heap.size w wx)
    case first =>
      refine wp_region_held_drew (S := (fun W : World => Blk W gc 36 #[.int .u8 (id : Int), .int .u32 (sq : Int), .int .u8 (xk : Int), .string ⟨xs.toArray⟩, .string ⟨xt.toArray⟩, .string ⟨xu.toArray⟩, .int .u8 (xz : Int)])) (by kernel_rfl) (hx.2) (fun hHeld => ?_)
      refine take1 (i := 0) (d := 25) (v := ?_) rfl (by kernel_rfl) (by kernel_rfl) (by kernel_rfl) rfl (fun _ _ _ h => h) (Or.inl ⟨by rfl, ?_⟩) (by assumption) ?_
      rotate_left
      · (intro w hSw; (try dsimp only at hSw); go_simp); with_reducible rfl
      simp only [List.set_cons_zero, List.set_cons_succ]
      refine take1 (i := 3) (d := 28) (v := ?_) rfl (by kernel_rfl) (by kernel_rfl) (by kernel_rfl) rfl (fun _ _ _ h => h) (Or.inl ⟨by rfl, ?_⟩) (by assumption) ?_
      rotate_left
      · intro w hSw; refine (exec_load (.tmp 3) (by rfl) (by rfl) (blk_load (P := Try.prog) (ty := 36) hSw Try.underlying36 rfl size_cmd)).trans ?_; with_reducible rfl
      simp only [List.set_cons_zero, List.set_cons_succ]
      refine wpAnyH_ready (rs := [1, 4]) (by kernel_rfl) (by simp) (AllReadyH.cons rfl (fun Kreg hKreg => ?_) (AllReadyH.cons rfl (fun Kreg hKreg => ?_) AllReadyH.nil))
      · refine step_load (by rfl) (.tmp 25) (by rfl) (by rfl) (by first | exact l26a | exact l26b) ?_
        refine hKreg.out _ _ ((by first | exact hx.2 | exact hx1.2 | exact hx2.2 | exact hx3.2 | exact hx4.2 | exact hx5.2 | exact hx6.2 | exact hcA | exact hcB)) (fun hHeld => ?_)
        clear hKreg Kreg
        refine wpAnyH_put (d := 26) (by rfl) ?_
        simp only [List.set_cons_zero, List.set_cons_succ]
        refine wpAnyH_ready (rs := [2, 4]) (by kernel_rfl) (by simp) (AllReadyH.cons rfl (fun Kreg hKreg => ?_) (AllReadyH.cons rfl (fun Kreg hKreg => ?_) AllReadyH.nil))
        · refine step_run_append (by rfl) (.const (.slice none 0 0)) (.tmp 26) 30 (by rfl) (by rfl) (by rfl) (by first | exact a1 | exact b1) ?_
          refine hKreg.out _ _ ((by first | exact hx.2 | exact hx1.2 | exact hx2.2 | exact hx3.2 | exact hx4.2 | exact hx5.2 | exact hx6.2 | exact hcA | exact hcB)) (fun hHeld => ?_)
          clear hKreg Kreg
          refine wpAnyH_put (d := 27) (by rfl) ?_
          simp only [List.set_cons_zero, List.set_cons_succ]
          refine wpAnyH_ready (rs := [4]) (by kernel_rfl) (by simp) (AllReadyH.cons rfl (fun Kreg hKreg => ?_) AllReadyH.nil)
          refine step_exec (by rfl) _ _ (exec_build1 (t := 30) (x := .tmp 28) (by rfl) (by rfl) (by first | exact ab | exact bb)) ?_
          refine hKreg.out _ _ ((by first | exact hx.2 | exact hx1.2 | exact hx2.2 | exact hx3.2 | exact hx4.2 | exact hx5.2 | exact hx6.2 | exact hcA | exact hcB)) (fun hHeld => ?_)
          clear hKreg Kreg
          refine wpAnyH_put (d := 29) (by rfl) ?_
          simp only [List.set_cons_zero, List.set_cons_succ]
          refine wpAnyH_ready (rs := [5]) (by kernel_rfl) (by simp) (AllReadyH.cons rfl (fun Kreg hKreg => ?_) AllReadyH.nil)
          refine step_run_append (by rfl) (.tmp 27) (.tmp 29) 30 (by rfl) (by rfl) (by rfl) (by first | exact a2 | exact b2) ?_
          refine hKreg.out _ _ ((by first | exact hx.2 | exact hx1.2 | exact hx2.2 | exact hx3.2 | exact hx4.2 | exact hx5.2 | exact hx6.2 | exact hcA | exact hcB)) (fun hHeld => ?_)
          clear hKreg Kreg
          refine wpAnyH_put (d := 30) (by rfl) ?_
          simp only [List.set_cons_zero, List.set_cons_succ]
          refine take1 (i := 6) (d := 31) (v := ?_) rfl (by kernel_rfl) (by kernel_rfl) (by kernel_rfl) rfl (fun _ _ _ h => h) (Or.inl ⟨by rfl, ?_⟩) (by assumption) ?_
          rotate_left
          · (intro w hSw; (try dsimp only at hSw); go_simp); with_reducible rfl
          simp only [List.set_cons_zero, List.set_cons_succ]
          refine wpAnyH_ready (rs := [7]) (by kernel_rfl) (by simp) (AllReadyH.cons rfl (fun Kreg hKreg => ?_) AllReadyH.nil)
          refine step_store (by rfl) (.tmp 31) (.tmp 30) (by rfl) (by rfl) (by rfl) (by first | exact sa | exact sb) ?_
          refine hKreg.out _ _ ((by first | exact hx.2 | exact hx1.2 | exact hx2.2 | exact hx3.2 | exact hx4.2 | exact hx5.2 | exact hx6.2 | exact hcA | exact hcB)) (fun hHeld => ?_)
          clear hKreg Kreg
          try simp only [Act.put, List.setIfInBounds_toArray, List.set_cons_zero, List.set_cons_succ]
          refine wpAnyH_done (by kernel_rfl) ?_ _
          go_wp2_with fail
          go_meet
          first | exact HQA.out | exact HQB.out
        · refine step_exec (by rfl) _ _ (exec_build1 (t := 30) (x := .tmp 28) (by rfl) (by rfl) (by first | exact ab | exact bb)) ?_
          refine hKreg.out _ _ ((by first | exact hx.2 | exact hx1.2 | exact hx2.2 | exact hx3.2 | exact hx4.2 | exact hx5.2 | exact hx6.2 | exact hcA | exact hcB)) (fun hHeld => ?_)
          clear hKreg Kreg
          refine wpAnyH_put (d := 29) (by rfl) ?_
          simp only [List.set_cons_zero, List.set_cons_succ]
          refine wpAnyH_ready (rs := [2]) (by kernel_rfl) (by simp) (AllReadyH.cons rfl (fun Kreg hKreg => ?_) AllReadyH.nil)
          refine step_run_append (by rfl) (.const (.slice none 0 0)) (.tmp 26) 30 (by rfl) (by rfl) (by rfl) (by first | exact a1 | exact b1) ?_
          refine hKreg.out _ _ ((by first | exact hx.2 | exact hx1.2 | exact hx2.2 | exact hx3.2 | exact hx4.2 | exact hx5.2 | exact hx6.2 | exact hcA | exact hcB)) (fun hHeld => ?_)
          clear hKreg Kreg
          refine wpAnyH_put (d := 27) (by rfl) ?_
          simp only [List.set_cons_zero, List.set_cons_succ]
          refine wpAnyH_ready (rs := [5]) (by kernel_rfl) (by simp) (AllReadyH.cons rfl (fun Kreg hKreg => ?_) AllReadyH.nil)
          refine step_run_append (by rfl) (.tmp 27) (.tmp 29) 30 (by rfl) (by rfl) (by rfl) (by first | exact a2 | exact b2) ?_
          refine hKreg.out _ _ ((by first | exact hx.2 | exact hx1.2 | exact hx2.2 | exact hx3.2 | exact hx4.2 | exact hx5.2 | exact hx6.2 | exact hcA | exact hcB)) (fun hHeld => ?_)
          clear hKreg Kreg
          refine wpAnyH_put (d := 30) (by rfl) ?_
          simp only [List.set_cons_zero, List.set_cons_succ]
          refine take1 (i := 6) (d := 31) (v := ?_) rfl (by kernel_rfl) (by kernel_rfl) (by kernel_rfl) rfl (fun _ _ _ h => h) (Or.inl ⟨by rfl, ?_⟩) (by assumption) ?_
          rotate_left
          · (intro w hSw; (try dsimp only at hSw); go_simp); with_reducible rfl
          simp only [List.set_cons_zero, List.set_cons_succ]
          refine wpAnyH_ready (rs := [7]) (by kernel_rfl) (by simp) (AllReadyH.cons rfl (fun Kreg hKreg => ?_) AllReadyH.nil)
          refine step_store (by rfl) (.tmp 31) (.tmp 30) (by rfl) (by rfl) (by rfl) (by first | exact sa | exact sb) ?_
          refine hKreg.out _ _ ((by first | exact hx.2 | exact hx1.2 | exact hx2.2 | exact hx3.2 | exact hx4.2 | exact hx5.2 | exact hx6.2 | exact hcA | exact hcB)) (fun hHeld => ?_)
          clear hKreg Kreg
          try simp only [Act.put, List.setIfInBounds_toArray, List.set_cons_zero, List.set_cons_succ]
          refine wpAnyH_done (by kernel_rfl) ?_ _
          go_wp2_with fail
          go_meet
          first | exact HQA.out | exact HQB.out
      · refine step_exec (by rfl) _ _ (exec_build1 (t := 30) (x := .tmp 28) (by rfl) (by rfl) (by first | exact ab | exact bb)) ?_
        refine hKreg.out _ _ ((by first | exact hx.2 | exact hx1.2 | exact hx2.2 | exact hx3.2 | exact hx4.2 | exact hx5.2 | exact hx6.2 | exact hcA | exact hcB)) (fun hHeld => ?_)
        clear hKreg Kreg
        refine wpAnyH_put (d := 29) (by rfl) ?_
        simp only [List.set_cons_zero, List.set_cons_succ]
        refine wpAnyH_ready (rs := [1]) (by kernel_rfl) (by simp) (AllReadyH.cons rfl (fun Kreg hKreg => ?_) AllReadyH.nil)
        refine step_load (by rfl) (.tmp 25) (by rfl) (by rfl) (by first | exact l26a | exact l26b) ?_
        refine hKreg.out _ _ ((by first | exact hx.2 | exact hx1.2 | exact hx2.2 | exact hx3.2 | exact hx4.2 | exact hx5.2 | exact hx6.2 | exact hcA | exact hcB)) (fun hHeld => ?_)
        clear hKreg Kreg
        refine wpAnyH_put (d := 26) (by rfl) ?_
        simp only [List.set_cons_zero, List.set_cons_succ]
        refine wpAnyH_ready (rs := [2]) (by kernel_rfl) (by simp) (AllReadyH.cons rfl (fun Kreg hKreg => ?_) AllReadyH.nil)
        refine step_run_append (by rfl) (.const (.slice none 0 0)) (.tmp 26) 30 (by rfl) (by rfl) (by rfl) (by first | exact a1 | exact b1) ?_
        refine hKreg.out _ _ ((by first | exact hx.2 | exact hx1.2 | exact hx2.2 | exact hx3.2 | exact hx4.2 | exact hx5.2 | exact hx6.2 | exact hcA | exact hcB)) (fun hHeld => ?_)
        clear hKreg Kreg
        refine wpAnyH_put (d := 27) (by rfl) ?_
        simp only [List.set_cons_zero, List.set_cons_succ]
        refine wpAnyH_ready (rs := [5]) (by kernel_rfl) (by simp) (AllReadyH.cons rfl (fun Kreg hKreg => ?_) AllReadyH.nil)
        refine step_run_append (by rfl) (.tmp 27) (.tmp 29) 30 (by rfl) (by rfl) (by rfl) (by first | exact a2 | exact b2) ?_
        refine hKreg.out _ _ ((by first | exact hx.2 | exact hx1.2 | exact hx2.2 | exact hx3.2 | exact hx4.2 | exact hx5.2 | exact hx6.2 | exact hcA | exact hcB)) (fun hHeld => ?_)
        clear hKreg Kreg
        refine wpAnyH_put (d := 30) (by rfl) ?_
        simp only [List.set_cons_zero, List.set_cons_succ]
        refine take1 (i := 6) (d := 31) (v := ?_) rfl (by kernel_rfl) (by kernel_rfl) (by kernel_rfl) rfl (fun _ _ _ h => h) (Or.inl ⟨by rfl, ?_⟩) (by assumption) ?_
        rotate_left
        · (intro w hSw; (try dsimp only at hSw); go_simp); with_reducible rfl
        simp only [List.set_cons_zero, List.set_cons_succ]
        refine wpAnyH_ready (rs := [7]) (by kernel_rfl) (by simp) (AllReadyH.cons rfl (fun Kreg hKreg => ?_) AllReadyH.nil)
        refine step_store (by rfl) (.tmp 31) (.tmp 30) (by rfl) (by rfl) (by rfl) (by first | exact sa | exact sb) ?_
        refine hKreg.out _ _ ((by first | exact hx.2 | exact hx1.2 | exact hx2.2 | exact hx3.2 | exact hx4.2 | exact hx5.2 | exact hx6.2 | exact hcA | exact hcB)) (fun hHeld => ?_)
        clear hKreg Kreg
        try simp only [Act.put, List.setIfInBounds_toArray, List.set_cons_zero, List.set_cons_succ]
        refine wpAnyH_done (by kernel_rfl) ?_ _
        go_wp2_with fail
        go_meet
        first | exact HQA.out | exact HQB.out

    case rest =>
      clear l26a l26b HQA HQB sa sb kxa kxb hcA hcB hx hx1 hx2 hx3 hx4 hx5 hx6 a1 ab a2 bb b1 b2
      obtain ⟨A3, k3, kx5, kr5, kl5, hr5, b5⟩ := hcut
      obtain ⟨wG, hst5, kx6, hg6⟩ := st_wt kx5 true
      have b6 := b5.grown hg6 b5.size (fun k hk => by cases hk; exact HGL.out.1)
      have kr6 : Blk wG gr 32 _ := kr5.grown hg6 (fun h => HGL.out.2.2.2.2.2.1 (Option.some.inj h).symm)
      have kl6 : Blk wG gl 47 _ := kl5.grown hg6 (fun h => HGL.out.2.2.2.2.2.2.1 (Option.some.inj h).symm)
      have hrG := rows_grown hr5.out.1 hg6 (fun ad e => (hr5.out.2 ad e).1)
      have kxd : Blk wG.drew gx 32 #[.int .u8 (id : Int), .int .i64 (n : Int), .slice A3 sq k3, .bool true, .int .u8 (dst : Int)] := kx6
      have krd : Blk wG.drew gr 32 _ := kr6
      have kld : Blk wG.drew gl 47 _ := kl6
      have bq0 := b6.drew
      have HAKX := Lib.hid (HAKW.out wG.drew A3 k3 hrG)
      have HRG : Hid (Rows wG.drew A3 7 cmL (L ++ [⟨id, sq, xk, xs, xt, xu, xz⟩])) := hrG
      have HA3 : Hid (∀ ad, A3 = some ad → ad.block ≠ gx ∧ ad.block ≠ gr ∧ ad.block ≠ gl) := hr5.out.2
      clear kx5 kr5 kl5 hr5 b5 hg6 kx6 kr6 kl6 b6 hrG HAKW HAPP hlt hszz hsq9
      go_upto_region 9 with (refine wpList_store (by rfl) (.tmp 32) (.const (.bool true)) (by rfl) (by rfl) (by rfl) hst5 ?_)
      clear hst5
      refine wp_region_held_drew (S := (fun W : World => Blk W gx 32 #[.int .u8 (id : Int), .int .i64 (n : Int), .slice A3 sq k3, .bool true, .int .u8 (dst : Int)])) (by kernel_rfl) (kxd) (fun hHeld => ?_)
      refine take1 (i := 0) (d := 33) (v := ?_) rfl (by kernel_rfl) (by kernel_rfl) (by kernel_rfl) rfl (fun _ _ _ h => h) (Or.inl ⟨by rfl, ?_⟩) (by assumption) ?_
      rotate_left
      · intro w hSw; refine (exec_load (.tmp 2) (by rfl) (by rfl) (blk_load (P := Try.prog) (ty := 32) hSw Try.underlying32 rfl size_rc)).trans ?_; with_reducible rfl
      simp only [List.set_cons_zero, List.set_cons_succ]
      refine take1 (i := 1) (d := 34) (v := ?_) rfl (by kernel_rfl) (by kernel_rfl) (by kernel_rfl) rfl (fun _ _ _ h => h) (Or.inl ⟨by rfl, ?_⟩) (by assumption) ?_
      rotate_left
      · intro w hSw; refine (exec_load (.tmp 2) (by rfl) (by rfl) (blk_load (P := Try.prog) (ty := 32) hSw Try.underlying32 rfl size_rc)).trans ?_; with_reducible rfl
      simp only [List.set_cons_zero, List.set_cons_succ]
      refine wpAnyH_ready (rs := [2]) (by kernel_rfl) (by simp) (AllReadyH.cons rfl (fun Kreg hKreg => ?_) AllReadyH.nil)
      go_simp
      refine HAKX.out.mono ?_; rintro e w5 ⟨rfl, b5⟩; have b5q := bq0.trans (b5.mono bq0.size); have kx5 := kxd.below b5 kxd.lt; have kr5 := krd.below b5 krd.lt; have kl5 := kld.below b5 kld.lt; have hr5 := HRG.out.below b5; clear HAKX b5
      go_wp2_with fail
      refine hKreg.out _ _ ((by first | exact kx7 | exact kx6 | exact kx5)) (fun hHeld => ?_)
      clear hKreg Kreg
      try simp only [Act.put, List.setIfInBounds_toArray, List.set_cons_zero, List.set_cons_succ]
      refine wpAnyH_ready (rs := [3]) (by kernel_rfl) (by simp) (AllReadyH.cons rfl (fun Kreg hKreg => ?_) AllReadyH.nil)
      obtain ⟨w6, hst3, kr6, hg6⟩ := st_rc kr5 rfl id n A3 sq k3 true dst; have kx6 : Blk w6 gx 32 _ := kx5.grown hg6 (fun h => HGL.out.2.2.2.2.2.1 (Option.some.inj h)); have kl6 : Blk w6 gl 47 _ := kl5.grown hg6 (fun h => HGL.out.2.2.2.2.2.2.2.2.2 (Option.some.inj h).symm); have b6 := b5q.grown hg6 b5q.size (fun k hk => by cases hk; exact HGL.out.2.2.1); have hr6 := rows_grown hr5 hg6 (fun ad e => (HA3.out ad e).2.1); refine step_store (by rfl) (.tmp 4) (.tmp 33) (by rfl) (by rfl) (by rfl) hst3 ?_
      refine hKreg.out _ _ ((by first | exact kx7 | exact kx6 | exact kx5)) (fun hHeld => ?_)
      clear hKreg Kreg
      try simp only [Act.put, List.setIfInBounds_toArray, List.set_cons_zero, List.set_cons_succ]
      refine wpAnyH_ready (rs := [4]) (by kernel_rfl) (by simp) (AllReadyH.cons rfl (fun Kreg hKreg => ?_) AllReadyH.nil)
      obtain ⟨w7, hst4, kl7, hg7⟩ := st_ask kl6 rfl id dst id sq xk xs xt xu xz; have kx7 : Blk w7 gx 32 _ := kx6.grown hg7 (fun h => HGL.out.2.2.2.2.2.2.1 (Option.some.inj h)); have kr7 : Blk w7 gr 32 _ := kr6.grown hg7 (fun h => HGL.out.2.2.2.2.2.2.2.2.2 (Option.some.inj h)); have b7 := b6.grown hg7 b6.size (fun k hk => by cases hk; exact HGL.out.2.2.2.1); have hr7 := rows_grown hr6 hg7 (fun ad e => (HA3.out ad e).2.2); have HLD1 := Lib.hid (blk_loadVar (P := Try.prog) (ty := 32) kr7 Try.underlying32 rfl size_rc); have HLD2 := Lib.hid (blk_loadVar (P := Try.prog) (ty := 47) kl7 Try.underlying47 rfl size_lt); refine step_store (by rfl) (.tmp 5) (.tmp 35) (by rfl) (by rfl) (by rfl) hst4 ?_
      refine hKreg.out _ _ ((by first | exact kx7 | exact kx6 | exact kx5)) (fun hHeld => ?_)
      clear hKreg Kreg
      try simp only [Act.put, List.setIfInBounds_toArray, List.set_cons_zero, List.set_cons_succ]
      refine take1 (i := 5) (d := 6) (v := ?_) rfl (by kernel_rfl) (by kernel_rfl) (by kernel_rfl) rfl (fun _ _ _ h => h) (Or.inl ⟨by rfl, ?_⟩) (by assumption) ?_
      rotate_left
      · (intro w hSw; (try dsimp only at hSw); go_simp); with_reducible rfl
      simp only [List.set_cons_zero, List.set_cons_succ]
      refine wpAnyH_done (by kernel_rfl) ?_ _
      have HQ : Hid (InvRet ⟨id, n, L, false, dst⟩ ⟨xa, xb, xk, xs, xt, xu, xz⟩ w (.returned (.tuple #[.agg #[.int .u8 (id : Int), .int .i64 (n : Int), .slice A3 sq k3, .bool true, .int .u8 (dst : Int)], .agg #[.int .u8 (16 + (id : Int)), .int .u8 (dst : Int), .int .u8 1, .int .u64 0, .int .u8 0, .int .u64 0, .int .u64 0, .int .u8 0, .string ⟨#[]⟩, .slice none 0 0, .slice none 0 0, .int .u8 (id : Int), .int .u32 (sq : Int), .int .u8 (xk : Int), .string ⟨xs.toArray⟩, .string ⟨xt.toArray⟩, .string ⟨xu.toArray⟩, .int .u8 (xz : Int), .int .u8 0, .string ⟨#[]⟩], .int .i64 0])) w7) := by
        show InvRet _ _ _ _ _
        unfold InvRet
        rw [HIV.out]
        exact ⟨A3, k3, by unfold rcC askR; dsimp only; rw [HL2.out, last_snoc]; rfl, hr7, b7⟩
      clear hst3 hst4
      go_wp2_with fail
      exact bodyPost_ret (v := .tuple #[.agg #[.int .u8 (id : Int), .int .i64 (n : Int), .slice A3 sq k3, .bool true, .int .u8 (dst : Int)], .agg #[.int .u8 (16 + (id : Int)), .int .u8 (dst : Int), .int .u8 1, .int .u64 0, .int .u8 0, .int .u64 0, .int .u64 0, .int .u8 0, .string ⟨#[]⟩, .slice none 0 0, .slice none 0 0, .int .u8 (id : Int), .int .u32 (sq : Int), .int .u8 (xk : Int), .string ⟨xs.toArray⟩, .string ⟨xt.toArray⟩, .string ⟨xu.toArray⟩, .int .u8 (xz : Int), .int .u8 0, .string ⟨#[]⟩], .int .i64 0]) (by simp [results, Try.results14, asAddr, HLD1.out, HLD2.out, Act.put]) rfl HQ.out
end Go.Proofs.Yteiaiilfekojfaa.Cli
