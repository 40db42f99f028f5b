/- Steps of a drawn region walked by an invariant: an append of bytes, bytes that can be read. No conditions. -/
import Derived.Test.YtgbnaifjdfoahaaInv
import Derived.Test.YtgbnaifjdfoahaaWireConv
namespace Go.Proofs.Ytgbnaifjdfoahaa.DrawInv
open Go.RowKit Wire

/-- A slice of these bytes. -/
def BtAt (M : List UInt8) (v : Value) (W : World) : Prop := ∃ A c, v = .slice A M.length c ∧ Reads W W.heap.size 1 A M.length (bv M)
theorem BtAt.below (M : List UInt8) (v : Value) (w w' : World) (h : BtAt M v w) (hb : Below w.heap.size w w') : BtAt M v w' := by
  obtain ⟨A, c, e, r⟩ := h
  exact ⟨A, c, e, (r.below hb).more hb.size⟩
/-- append(nil, s). -/
theorem exec_append_nil {w : World} {V : Value → World → Prop} {ρ : Operand → Value} {o : Oper} {x : Operand} {t : TypeId} (hc : ∀ v, ρ (.const v) = v)
    (ho : o.op = .call { callee := .builtin .append, args := #[.const (.slice none 0 0), x], argTypes := #[t, t] })
    (ht : Try.prog.underlying t = some (.slice 5)) {A : Option Addr} {c : Nat} {l : List UInt8} (hx : ρ x = .slice A l.length c) (hl : l.length ≤ 1000000000) (hr : Reads w w.heap.size 1 A l.length (bv l))
    (hV : ∀ v w', BtAt l v w' → V v w') : Res Try.prog V w ((execOp ρ o).run Try.prog w) := by
  obtain ⟨i0, hi, hz0, hz1, hz2⟩ := info_parts info_u8
  obtain ⟨v', w', hrun, h2, h3, h4⟩ := run_append_any (P := Try.prog) w w.heap.size t o.type 5 i0 (.int .u8 0) 1 1 ht hi hz0 hz1 hz2 rfl (by omega) (.slice none 0 0) 0 [] (World.ownsRow_nil _ _ _ _) w.heap.size A l.length c (bv l) hr (bv_one l) (by unfold maxLen; omega) (by omega) (Nat.le_refl _)
  refine .inl ⟨v', w', ?_, hV v' w' ?_, ?_⟩
  · unfold execOp
    simp only [ho, resolve, invoke, builtin, Sem.run_bind, Sem.run_pure, Result.andThen_ok, List.map_toArray, List.map_cons, List.map_nil, hc, hx, hrun]
  · rw [Nat.zero_add, List.nil_append] at h2
    obtain ⟨A', c', e, r⟩ := own_slice1 h2
    exact ⟨A', c', e, r⟩
  · exact (Below.refl _ w).grown h3 (Nat.le_refl _) (fun k hk => by cases hk)
end Go.Proofs.Ytgbnaifjdfoahaa.DrawInv
