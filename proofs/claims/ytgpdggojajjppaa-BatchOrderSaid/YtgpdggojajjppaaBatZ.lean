/- What lies apart from a queue; rows that are cleared. Conditions: those each law names. -/
import Derived.Test.YtgpdggojajjppaaBatS
namespace Go.Proofs.Ytgpdggojajjppaa.Bat
open Go.RowKit Wire Cmd DrawInv

/-- A list that can be read, apart from the queue's memory. -/
structure RowsF (w : World) (g : Nat) (v : Value) (A : Option Addr) (l : List Cm) : Prop where
  r : Rows w A 7 cmL l
  f : l ≠ [] → ∀ ad, A = some ad → Far w g v ad.block
section
variable {B g : Nat} {l m : List Cm} {v v' : Value} {w w' : World} {A : Option Addr}
theorem RowsF.nil (w : World) (g : Nat) (v : Value) (A : Option Addr) : RowsF w g v A [] := ⟨Rows.nil _ _ _ _, fun h => absurd rfl h⟩
theorem RowsF.keep (h : RowsF w g v A m) (hs : w.heap.size ≤ w'.heap.size) (hf : ∀ ad, A = some ad → m ≠ [] → w'.heap[ad.block]? = w.heap[ad.block]?) (hF : ∀ r, Far w g v r → Far w' g v' r) : RowsF w' g v' A m := by
  refine ⟨fun k x hk => ?_, fun hn ad e => hF _ (h.f hn ad e)⟩
  have hn : m ≠ [] := fun e => by subst e; simp at hk
  obtain ⟨ad, rfl, hlt, h0⟩ := h.r k x hk
  exact ⟨ad, rfl, Nat.lt_of_lt_of_le hlt hs, fun j u hu => (World.cell?_of_block (by rw [block_of_add]; exact hf ad rfl hn)).trans (h0 j u hu)⟩
theorem RowsF.step (h : RowsF w g v A m) (s : QStep g v w v' w') : RowsF w' g v' A m := h.keep s.out.size (fun ad e hn => s.heap (h.f hn ad e)) (fun _ hf => hf.step s)
theorem RowsF.below (h : RowsF w g v A m) (hb : Below w.heap.size w w') : RowsF w' g v A m := h.keep hb.size (fun ad e hn => hb.block _ (h.f hn ad e).lt) (fun _ hf => hf.below hb)
theorem RowsF.cut (h : RowsF w g v A m) {n c : Nat} (hn : n ≤ m.length) (hc : m.length ≤ c) : RowsF w g v (cutA A n c) (m.drop n) := by
  refine ⟨rows_drop h.r hn hc, fun hne ad e => ?_⟩
  have hm : m ≠ [] := fun e' => hne (by rw [e']; simp)
  unfold cutA at e
  split at e
  · exact h.f hm ad e
  · cases A with
    | none => cases e
    | some a =>
      rw [Option.map_some] at e
      have e := Option.some.inj e
      rw [← e, block_of_add]
      exact h.f hm a rfl
theorem RowsF.ref {u : Value} {m2 : List Cm} (h : RowsF w g v A m) (q : QS B g l v w) (hr : RefL w A m u m2 w') (hb : Below w.heap.size w w') : ∃ A' c', u = .slice A' m2.length c' ∧ m2.length ≤ c' ∧ RowsF w' g v A' m2 := by
  obtain ⟨A', c', e1, e2, e3, e4⟩ := hr
  refine ⟨A', c', e1, e2, e3, fun hn ad e => ?_⟩
  subst e
  have hlt : ad.block < w'.heap.size := by
    cases m2 with
    | nil => exact absurd rfl hn
    | cons x m2 =>
      obtain ⟨ad', h1, h2, _⟩ := e3 0 x rfl
      cases h1
      exact h2
  rcases e4 with ⟨e4, e5⟩ | e4
  · exact (h.f (by rw [← e5]; exact hn) ad e4.symm).below hb
  · exact far_new q (e4 ad rfl) hlt
/-- Some blocks apart from the queue turn. -/
theorem QS.outs {S : List Nat} (q : QS B g l v w) (h : Outs S w w') (hS : ∀ r ∈ S, Far w g v r) : QS B g l v w' := by
  refine ⟨h.blk q.hg (fun hm => (hS g hm).ne rfl), ⟨q.ho.1, ?_⟩, q.hB⟩
  rcases q.ho.2 with h' | ⟨g', cap, cur, rfl, hb, hh, rest⟩
  · exact .inl h'
  · exact .inr ⟨g', cap, cur, rfl, hb, (h.block g' (Blk.lt hh) (fun hm => (hS g' hm).nv rfl)).trans hh, rest⟩
theorem Far.outs {S : List Nat} {r : Nat} (h : Far w g v r) (ho : Outs S w w') : Far w' g v r := ⟨Nat.lt_of_lt_of_le h.lt ho.size, h.ne, h.nv⟩
theorem RowsF.outs {S : List Nat} (h : RowsF w g v A m) (ho : Outs S w w') (hS : ∀ ad, A = some ad → m ≠ [] → ad.block ∉ S) : RowsF w' g v A m := h.keep ho.size (fun ad e hn => ho.block _ (h.f hn ad e).lt (hS ad e hn)) (fun _ hf => hf.outs ho)
/-- A row that is being cleared. -/
structure ZR (w : World) (u : Value) (n : Nat) (wr : World) : Prop where
  out : Outs u.ownBlock.toList w wr
  blk : ∀ r, u.ownBlock = some r → ∃ cur, Blk wr r 36 cur ∧ n * 7 ≤ cur.size
theorem ZR.start {u : Value} (h : Lies w B u m) : ZR w u m.length w := by
  refine ⟨Outs.refl _ _, fun r hr => ?_⟩
  rcases h with ⟨rfl, _⟩ | ⟨r', c, cur, rfl, _, hk, hs, _⟩
  · cases hr
  · have : r' = r := Option.some.inj hr
    subst this
    exact ⟨cur, hk, hs⟩
theorem ZR.store {wr : World} {ad : Addr} {n c k : Nat} (h : ZR w (.slice (some ad) n c) n wr) (had : ad = ⟨ad.block, 0, none⟩) (hk : k < n) :
    ∃ w', (Instr.storeAt 36 (.pointer (some (ad.add (k * 7)))) (.agg #[.int .u8 0, .int .u32 0, .int .u8 0, .string ⟨#[]⟩, .string ⟨#[]⟩, .string ⟨#[]⟩, .int .u8 0])).run Try.prog wr = .ok () w' ∧ ZR w (.slice (some ad) n c) n w' := by
  obtain ⟨cur, hb, hs⟩ := h.blk ad.block rfl
  have hst := blk_put (P := Try.prog) (ty := 36) hb (k * 7) #[.int .u8 0, .int .u32 0, .int .u8 0, .string ⟨#[]⟩, .string ⟨#[]⟩, .string ⟨#[]⟩, .int .u8 0] (by show k * 7 + 7 ≤ _; omega) size_cm rfl
  have e : ad.add (k * 7) = ⟨ad.block, k * 7, none⟩ := by
    rw [had]
    unfold Addr.add
    by_cases h : k * 7 = 0 <;> simp [h]
  rw [e]
  refine ⟨_, hst, ⟨h.out.trans (Outs.of_grown (g := ad.block) (grown_setCells _ _ (World.grownBy.refl _ _)) (by simp [Value.ownBlock])), fun r hr => ?_⟩⟩
  have : ad.block = r := Option.some.inj hr
  subst this
  exact ⟨_, hb.setCells _ _, by rw [putA_size]; exact hs⟩
theorem QStep.bw2 {C : Nat} {w0 : World} (s : QStep g v w v' w') (q : QS B g l v w) (bw : Below C w0 w) (hC : C ≤ B) (hs : B ≤ w.heap.size) : Below C w0 w' :=
  bw.trans (s.out.below (Nat.le_trans hC hs) (fun k hk => by
    rcases List.mem_cons.1 hk with rfl | h'
    · exact Nat.le_trans hC q.hB
    · exact Nat.le_trans hC (q.ho.lt k (by simpa using h')).1))
theorem Lies.own_ge {u : Value} {r : Nat} (h : Lies w B u m) (hr : u.ownBlock = some r) : B ≤ r := by
  rcases h with ⟨rfl, _⟩ | ⟨r', c, cur, rfl, hb, _⟩
  · cases hr
  · have : r' = r := Option.some.inj hr
    omega
theorem Lies.slice {u : Value} (h : Lies w B u m) : ∃ A c, u = .slice A m.length c ∧ Rows w A 7 cmL m ∧ (0 < m.length → ∃ ad : Addr, A = some ad ∧ ad = ⟨ad.block, 0, none⟩) := by
  have h0 := h
  obtain ⟨A, c, rfl, hr, _⟩ := h.rows
  refine ⟨A, c, rfl, hr, fun hm => ?_⟩
  rcases h0 with ⟨_, rfl⟩ | ⟨r, c', cur, hv, _⟩
  · exact absurd hm (by simp)
  · cases hv; exact ⟨_, rfl, rfl⟩
theorem ZR.below {C : Nat} {w0 wr : World} {u : Value} {n : Nat} (z : ZR w u n wr) (h : Lies w B u m) (bw : Below C w0 w) (hC : C ≤ B) (hs : B ≤ w.heap.size) : Below C w0 wr :=
  bw.trans (z.out.below (Nat.le_trans hC hs) (fun r hr => Nat.le_trans hC (h.own_ge (by simpa using hr))))
theorem lies_addr {u : Value} {ad : Addr} {n c : Nat} (h : Lies w B u m) (hu : u = .slice (some ad) n c) : ad = ⟨ad.block, 0, none⟩ := by
  rcases h with ⟨rfl, _⟩ | ⟨r', c, cur, rfl, _⟩
  · cases hu
  · cases hu; rfl
end
end Go.Proofs.Ytgpdggojajjppaa.Bat
