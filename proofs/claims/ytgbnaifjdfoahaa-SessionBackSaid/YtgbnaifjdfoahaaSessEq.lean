/- Two tables compared: what the comparison answers. Conditions: none. -/
import Derived.Test.YtgbnaifjdfoahaaSessTakeP
import Derived.ChangeKeysEq
import Derived.Laws.StructEq
namespace Go.Proofs.Ytgbnaifjdfoahaa
open Go.RowKit Go

theorem eqFields_nil (P : Program) (w : World) (d : Nat) (xs ys : Array Value) : (Op.eqFields d xs ys []).run P w = .ok true w := by simp [Op.eqFields]
theorem eqFields_step {P : Program} {w : World} {d : Nat} {xs ys : Array Value} {f : Field} {fs : List Field} {a b : Value} {r s : Bool} (hn : f.name ≠ "_") (ha : (part f.type xs f.offset).run P w = .ok a w) (hb : (part f.type ys f.offset).run P w = .ok b w)
    (he : (Op.equalIn d f.type a b).run P w = .ok r w) (hr : (Op.eqFields d xs ys fs).run P w = .ok s w) : (Op.eqFields d xs ys (f :: fs)).run P w = .ok (r && s) w := by
  unfold Op.eqFields
  rw [if_pos hn]
  simp only [Sem.run_bind, ha, hb, he, Result.andThen_ok]
  cases r
  · simp
  · simp [hr]
theorem eqItems_nil (P : Program) (w : World) (d : Nat) (e : TypeId) (c : Nat) (xs ys : Array Value) : (Op.eqItems d e c xs ys []).run P w = .ok true w := by simp [Op.eqItems]
theorem eqItems_step {P : Program} {w : World} {d : Nat} {e : TypeId} {c i : Nat} {is : List Nat} {xs ys : Array Value} {a b : Value} {r s : Bool} (ha : (part e xs (i * c)).run P w = .ok a w) (hb : (part e ys (i * c)).run P w = .ok b w)
    (he : (Op.equalIn d e a b).run P w = .ok r w) (hr : (Op.eqItems d e c xs ys is).run P w = .ok s w) : (Op.eqItems d e c xs ys (i :: is)).run P w = .ok (r && s) w := by
  unfold Op.eqItems
  simp only [Sem.run_bind, ha, hb, he, Result.andThen_ok]
  cases r
  · simp
  · simp [hr]
theorem fields_of {P : Program} {t : TypeId} {fs : Array Field} (h : P.underlying t = some (.struct fs)) : P.underlying t = some (.struct (P.fieldsOf t)) ∧ P.fieldsOf t = fs := by
  have e : P.fieldsOf t = fs := by unfold Program.fieldsOf; rw [h]
  rw [e]
  exact ⟨h, rfl⟩
namespace Sess
open Wire
def eqR (c1 c2 : Int) (s1 s2 : ByteArray) : Bool := (c1 == c2) && ((s1.toList == s2.toList) && true)
def eqE (a b : Ent) : Bool := ((a.seq : Int) == (b.seq : Int)) && (eqR a.code b.code a.text b.text && true)
def eqT (a b : Nat → Ent) : Bool := eqE (a 0) (b 0) && (eqE (a 1) (b 1) && (eqE (a 2) (b 2) && (eqE (a 3) (b 3) && true)))
theorem run_eq_reply (n : Nat) (w : World) (c1 c2 : Int) (s1 s2 : ByteArray) : (Op.equalIn (n + 2) 27 (.agg #[.int .u8 c1, .string s1]) (.agg #[.int .u8 c2, .string s2])).run Try.prog w = .ok (eqR c1 c2 s1 s2) w := by
  have e1 := run_equalIn_int (P := Try.prog) w n 5 .u8 .u8 c1 c2 Try.underlying5
  have e2 := run_equalIn_string (P := Try.prog) w n 9 s1 s2 Try.underlying9
  obtain ⟨h1, h2⟩ := fields_of Try.underlying27
  rw [run_equalIn_agg w (n + 1) _ _ _ h1 (by kernel_rfl), h2]
  exact eqFields_step (by decide) (by kernel_rfl) (by kernel_rfl) e1 (eqFields_step (by decide) (by kernel_rfl) (by kernel_rfl) e2 (eqFields_nil _ _ _ _ _))
def entA (x : Ent) : Array Value := #[.int .u32 (x.seq : Int), .int .u8 (x.code : Int), .string x.text]
theorem run_eq_last (n : Nat) (w : World) (a b : Ent) : (Op.equalIn (n + 3) 29 (.agg (entA a)) (.agg (entA b))).run Try.prog w = .ok (eqE a b) w := by
  have e1 := run_equalIn_int (P := Try.prog) w (n + 1) 25 .u32 .u32 (a.seq : Int) (b.seq : Int) Try.underlying25
  have e2 := run_eq_reply n w a.code b.code a.text b.text
  obtain ⟨h1, h2⟩ := fields_of Try.underlying29
  rw [run_equalIn_agg w (n + 2) _ _ _ h1 (by kernel_rfl), h2]
  exact eqFields_step (by decide) (by kernel_rfl) (by kernel_rfl) e1 (eqFields_step (by decide) (by kernel_rfl) (by kernel_rfl) e2 (eqFields_nil _ _ _ _ _))
theorem part_tab (t : Nat → Ent) (k : Nat) (hk : k < 4) (w : World) : (part 29 (tabC t) (k * 3)).run Try.prog w = .ok (.agg (entA (t k))) w := by
  rcases (show k = 0 ∨ k = 1 ∨ k = 2 ∨ k = 3 by omega) with rfl | rfl | rfl | rfl
  · kernel_rfl
  · kernel_rfl
  · kernel_rfl
  · kernel_rfl
theorem run_eq_tab (w : World) (a b : Nat → Ent) : (Op.equalIn 10000 31 (tabV a) (tabV b)).run Try.prog w = .ok (eqT a b) w := by
  have hc : Try.prog.cellsOf 29 = 3 := by kernel_rfl
  obtain ⟨i, hi⟩ := info_of_underlying Try.underlying29
  have e := run_equalIn_array (P := Try.prog) w 9999 (tabC a) (tabC b) Try.underlying31 hi
  rw [hc] at e
  refine Eq.trans e ?_
  exact eqItems_step (part_tab a 0 (by omega) w) (part_tab b 0 (by omega) w) (run_eq_last 9996 w (a 0) (b 0)) (eqItems_step (part_tab a 1 (by omega) w) (part_tab b 1 (by omega) w) (run_eq_last 9996 w (a 1) (b 1))
    (eqItems_step (part_tab a 2 (by omega) w) (part_tab b 2 (by omega) w) (run_eq_last 9996 w (a 2) (b 2)) (eqItems_step (part_tab a 3 (by omega) w) (part_tab b 3 (by omega) w) (run_eq_last 9996 w (a 3) (b 3)) (eqItems_nil _ _ _ _ _ _ _))))
theorem toList_inj (a b : ByteArray) (h : a.toList = b.toList) : a = b := by
  have e := beq_toListBytes a b
  rw [h] at e
  simp only [beq_self_eq_true] at e
  have h2 : a.data = b.data := by
    have e2 : (a.data == b.data) = true := e
    exact eq_of_beq e2
  cases a; cases b; simp_all
theorem eqE_iff (a b : Ent) : eqE a b = true ↔ a = b := by
  obtain ⟨a1, a2, a3⟩ := a
  obtain ⟨b1, b2, b3⟩ := b
  unfold eqE eqR
  simp only [Bool.and_true, Bool.and_eq_true, beq_iff_eq, Ent.mk.injEq]
  constructor
  · rintro ⟨h1, h2, h3⟩
    exact ⟨by omega, by omega, toList_inj _ _ h3⟩
  · rintro ⟨rfl, rfl, rfl⟩
    exact ⟨rfl, rfl, rfl⟩
theorem eqT_iff (a b : Nat → Ent) : eqT a b = true ↔ ∀ c, c < 4 → a c = b c := by
  unfold eqT
  simp only [Bool.and_true, Bool.and_eq_true, eqE_iff]
  constructor
  · rintro ⟨h0, h1, h2, h3⟩ c hc
    rcases (show c = 0 ∨ c = 1 ∨ c = 2 ∨ c = 3 by omega) with rfl | rfl | rfl | rfl <;> assumption
  · intro h
    exact ⟨h 0 (by omega), h 1 (by omega), h 2 (by omega), h 3 (by omega)⟩
end Sess
end Go.Proofs.Ytgbnaifjdfoahaa
