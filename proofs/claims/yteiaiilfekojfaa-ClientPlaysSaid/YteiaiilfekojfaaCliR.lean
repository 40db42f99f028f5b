/- The reference of chapter 27, walked: May, New, Last, asks. Conditions: the list of commands can be read. -/
import Derived.Test.YteiaiilfekojfaaCliRP
import Derived.Test.YteiaiilfekojfaaCliW
import Derived.Test.YteiaiilfekojfaaCmdL
import Derived.Test.YteiaiilfekojfaaInv
import Derived.Test.YteiaiilfekojfaaBatRow
namespace Go.Proofs.Yteiaiilfekojfaa.Cli
open Go.RowKit Wire Cmd DrawInv

def rcC (r : Rc) (A : Option Addr) (k : Nat) : Array Value := #[.int .u8 (r.id : Int), .int .i64 (r.n : Int), .slice A r.L.length k, .bool r.waits, .int .u8 (r.dst : Int)]
theorem size_rc : (Try.prog.info? 32).map (·.size) = some 5 := by kernel_rfl
def mayI (id : Nat) (n : Int) : Bool := decide (id < 4) && decide (0 < n) && decide (n < 8)
theorem rmay_any (id : Nat) (n : Int) (w : World) : Calls Try.prog 11 #[.int .u8 (id : Int), .int .i64 n] w fun e w' => e = .returned (.bool (mayI id n)) ∧ w = w' := by
  by_cases h1 : id < 4
  · have h1i : (id : Int) < 4 := by omega
    by_cases h2 : 0 < n
    · by_cases h3 : n < 8
      · have HQ : Hid (mayI id n = true) := by show _ = _; unfold mayI; rw [decide_eq_true h1, decide_eq_true h2, decide_eq_true h3]; rfl
        go_enter Try.func11, Try.ntmps11
        go_wp2_with fail
        go_ret
        exact ⟨by rw [HQ.out]; rfl, rfl⟩
      · have h3n : ¬ n < 8 := h3
        have HQ : Hid (mayI id n = false) := by show _ = _; unfold mayI; rw [decide_eq_true h1, decide_eq_true h2, decide_eq_false h3]; rfl
        go_enter Try.func11, Try.ntmps11
        go_wp2_with fail
        go_ret
        exact ⟨by rw [HQ.out]; rfl, rfl⟩
    · have h2n : ¬ 0 < n := h2
      have HQ : Hid (mayI id n = false) := by show _ = _; unfold mayI; rw [decide_eq_true h1, decide_eq_false h2]; rfl
      go_enter Try.func11, Try.ntmps11
      go_wp2_with fail
      go_ret
      exact ⟨by rw [HQ.out]; rfl, rfl⟩
  · have h1i : ¬ (id : Int) < 4 := by omega
    have HQ : Hid (mayI id n = false) := by show _ = _; unfold mayI; rw [decide_eq_false h1]; rfl
    go_enter Try.func11, Try.ntmps11
    go_wp2_with fail
    go_ret
    exact ⟨by rw [HQ.out]; rfl, rfl⟩
/-- A client stored whole. -/
theorem st_rc {w : World} {g : Nat} {old : Array Value} (h : Blk w g 32 old) (ho : old.size = 5) (id n : Nat) (A : Option Addr) (m k : Nat) (wt : Bool) (dst : Nat) : ∃ w', (Instr.storeAt 32 (.pointer (some ⟨g, 0, none⟩)) (.agg #[.int .u8 (id : Int), .int .i64 (n : Int), .slice A m k, .bool wt, .int .u8 (dst : Int)])).run Try.prog w = .ok () w' ∧ Blk w' g 32 #[.int .u8 (id : Int), .int .i64 (n : Int), .slice A m k, .bool wt, .int .u8 (dst : Int)] ∧ w.grownBy w' (some g) :=
  ⟨_, blk_store h ho size_rc rfl, Blk.setRow h, grown_setRow (World.grownBy.refl _ _) (.inr rfl)⟩
set_option linter.unusedSimpArgs false in
set_option maxRecDepth 100000 in
theorem rnew_any (id n : Nat) (hi : id < 4) (h1 : 1 ≤ n) (h7 : n ≤ 7) (w : World) : Calls Try.prog 12 #[.int .u8 (id : Int), .int .i64 (n : Int)] w fun e w' => e = .returned (.agg (rcC (Rc.new id n) none 0)) ∧ Below w.heap.size w w' := by
  have kn := Blk.new w 32 #[.int .u8 0, .int .i64 0, .slice none 0 0, .bool false, .int .u8 0]
  have b0 : Below w.heap.size w (w.alloc (.cells #[.int .u8 0, .int .i64 0, .slice none 0 0, .bool false, .int .u8 0] 32)) := (Below.refl _ w).alloc (Nat.le_refl _) _
  obtain ⟨md, hmd⟩ : ∃ x, x = id % n := ⟨_, rfl⟩
  obtain ⟨w3, hst, k3, hg3⟩ := st_rc kn rfl id n none 0 0 false md
  have b3 := b0.grown hg3 b0.size (fun k hk => by cases hk; exact Nat.le_refl _)
  have HLD := Lib.hid (blk_loadVar (P := Try.prog) (ty := 32) k3 Try.underlying32 rfl size_rc)
  have hw : IntKind.u8.wrap (n : Int) = (n : Int) := by rw [IntKind.wrap_u8]; omega
  have hn0 : ¬ (n : Int) = 0 := by omega
  have hn1 : ((n : Int) == 0) = false := beq_eq_false_iff_ne.2 hn0
  have hmi : (id : Int).tmod (n : Int) = (md : Int) := by rw [Int.tmod_eq_emod_of_nonneg (by omega), hmd]; simp
  have hmi2 : (id : Int) % (n : Int) = (md : Int) := by rw [hmd]; simp
  have hml : md < 7 := by have := Nat.mod_lt id (show n > 0 by omega); omega
  have hw2 : IntKind.u8.wrap (md : Int) = (md : Int) := by rw [IntKind.wrap_u8]; omega
  have HMD := Lib.hid hmd
  clear kn b0 k3 hg3 hmd
  go_enter Try.func12, Try.ntmps12
  go_wp2_with (refine wpList_store (by rfl) (.tmp 4) (.tmp 11) (by rfl) (by rfl) (by rfl) hst ?_)
  exact bodyPost_ret (v := .agg #[.int .u8 (id : Int), .int .i64 (n : Int), .slice none 0 0, .bool false, .int .u8 (md : Int)]) (by simp [results, Try.results12, asAddr, HLD.out, Act.put]) rfl ⟨by rw [HMD.out]; rfl, b3⟩
theorem st_cm {w : World} {g : Nat} {old : Array Value} (h : Blk w g 36 old) (ho : old.size = 7) (la lb lk : Nat) (ls lt lu : List UInt8) (lz : Nat) : ∃ w', (Instr.storeAt 36 (.pointer (some ⟨g, 0, none⟩)) (.agg #[.int .u8 (la : Int), .int .u32 (lb : Int), .int .u8 (lk : Int), .string ⟨ls.toArray⟩, .string ⟨lt.toArray⟩, .string ⟨lu.toArray⟩, .int .u8 (lz : Int)])).run Try.prog w = .ok () w' ∧ Blk w' g 36 #[.int .u8 (la : Int), .int .u32 (lb : Int), .int .u8 (lk : Int), .string ⟨ls.toArray⟩, .string ⟨lt.toArray⟩, .string ⟨lu.toArray⟩, .int .u8 (lz : Int)] ∧ w.grownBy w' (some g) :=
  ⟨_, blk_store h ho size_cmd rfl, Blk.setRow h, grown_setRow (World.grownBy.refl _ _) (.inr rfl)⟩
set_option linter.unusedSimpArgs false in
set_option linter.unusedVariables false in
set_option maxRecDepth 100000 in
set_option maxHeartbeats 2000000 in
theorem rlast_any (r : Rc) (m : Nat) (hm : r.L.length = m) (hm3 : m ≤ 1000) (A : Option Addr) (k : Nat) (w : World) (hr : Rows w A 7 cmL r.L) : Calls Try.prog 21 #[.agg #[.int .u8 (r.id : Int), .int .i64 (r.n : Int), .slice A m k, .bool r.waits, .int .u8 (r.dst : Int)]] w fun e w' => e = .returned (cmV (lastR r.L)) ∧ Below w.heap.size w w' := by
  obtain ⟨id, n, L, wt, dst⟩ := r
  dsimp only at hm hr ⊢
  obtain ⟨gx, hgx⟩ : ∃ g, g = w.heap.size := ⟨_, rfl⟩
  obtain ⟨ga, hga⟩ : ∃ g, g = w.heap.size + 1 := ⟨_, rfl⟩
  obtain ⟨w1, hw1⟩ : ∃ W, W = w.alloc (.cells #[.int .u8 (id : Int), .int .i64 (n : Int), .slice A m k, .bool wt, .int .u8 (dst : Int)] 32) := ⟨_, rfl⟩
  obtain ⟨wA, hwA⟩ : ∃ W, W = w1.alloc (.cells #[.int .u8 0, .int .u32 0, .int .u8 0, .string ⟨#[]⟩, .string ⟨#[]⟩, .string ⟨#[]⟩, .int .u8 0] 36) := ⟨_, rfl⟩
  have hs1 : w1.heap.size = ga := by rw [hw1, hga, World.alloc, Array.size_push]
  have bw : Below w.heap.size w wA := by
    rw [hwA, hw1]
    refine ((Below.refl _ w).alloc (Nat.le_refl _) _).alloc ?_ _
    rw [← hw1, hs1, hga]; omega
  have kx : Blk wA gx 32 #[.int .u8 (id : Int), .int .i64 (n : Int), .slice A m k, .bool wt, .int .u8 (dst : Int)] := by rw [hwA, hw1, hgx]; exact (Blk.new w 32 #[.int .u8 (id : Int), .int .i64 (n : Int), .slice A m k, .bool wt, .int .u8 (dst : Int)]).alloc _
  have ka : Blk wA ga 36 #[.int .u8 0, .int .u32 0, .int .u8 0, .string ⟨#[]⟩, .string ⟨#[]⟩, .string ⟨#[]⟩, .int .u8 0] := by rw [hwA, ← hs1]; exact Blk.new w1 36 #[.int .u8 0, .int .u32 0, .int .u8 0, .string ⟨#[]⟩, .string ⟨#[]⟩, .string ⟨#[]⟩, .int .u8 0]
  have hup : Hid ((w.alloc (.cells #[.int .u8 (id : Int), .int .i64 (n : Int), .slice A m k, .bool wt, .int .u8 (dst : Int)] 32)).alloc (.cells #[.int .u8 0, .int .u32 0, .int .u8 0, .string ⟨#[]⟩, .string ⟨#[]⟩, .string ⟨#[]⟩, .int .u8 0] 36) = wA) := by show _ = _; rw [hwA, hw1]
  have hug : Hid (w.heap.size = gx ∧ w.heap.size + 1 = ga) := ⟨hgx.symm, hga.symm⟩
  have hgl : w.heap.size ≤ ga := by omega
  clear hwA hw1 hs1 hgx hga
  have x2 := kx.cell 2
  by_cases h0 : m = 0
  · subst h0
    obtain rfl : L = [] := List.eq_nil_of_length_eq_zero hm
    obtain ⟨w3, hst, k3, hg3⟩ := st_cm ka rfl 0 0 0 [] [] [] 0
    have b3 := bw.grown hg3 bw.size (fun k hk => by cases hk; exact hgl)
    have HLD := Lib.hid (blk_loadVar (P := Try.prog) (ty := 36) k3 Try.underlying36 rfl size_cmd)
    clear k3 hg3 bw kx ka hr hm hgl
    go_enter Try.func21, Try.ntmps21
    go_upto_region 1 with fail
    rw [show (w.alloc (.cells #[.int .u8 (id : Int), .int .i64 (n : Int), .slice A 0 k, .bool wt, .int .u8 (dst : Int)] 32)).alloc (.cells #[.int .u8 0, .int .u32 0, .int .u8 0, .string ⟨#[]⟩, .string ⟨#[]⟩, .string ⟨#[]⟩, .int .u8 0] 36) = wA from hup.out, hug.out.2, hug.out.1]
    go_wp2_with (refine wpList_store (by rfl) (.tmp 2) (.tmp 7) (by rfl) (by rfl) (by rfl) hst ?_)
    exact bodyPost_ret (v := .agg #[.int .u8 0, .int .u32 0, .int .u8 0, .string ⟨#[]⟩, .string ⟨#[]⟩, .string ⟨#[]⟩, .int .u8 0]) (by simp [results, Try.results21, asAddr, HLD.out, Act.put]) rfl ⟨rfl, b3⟩
  obtain ⟨y, hy⟩ : ∃ y, L[m - 1]? = some y := ⟨_, List.getElem?_eq_getElem (by omega)⟩
  have hl : lastR L = y := by
    unfold lastR
    rw [List.getLast?_eq_getElem?, hm, hy]
    rfl
  rw [hl]
  obtain ⟨ad, rfl, hadl, z0, z1⟩ := (hr.below bw).at_ hy
  obtain ⟨la, lb, lk, ls, lt, lu, lz⟩ := y
  have e0 := z0 _ rfl
  have e1 := z1 0 _ rfl
  have e2 := z1 1 _ rfl
  have e3 := z1 2 _ rfl
  have e4 := z1 3 _ rfl
  have e5 := z1 4 _ rfl
  have e6 := z1 5 _ rfl
  dsimp only at e0 e1 e2 e3 e4 e5 e6
  obtain ⟨m1, rfl⟩ : ∃ j, m = j + 1 := ⟨m - 1, by omega⟩
  rw [Nat.add_sub_cancel] at e0 e1 e2 e3 e4 e5 e6
  obtain ⟨w3, hst, k3, hg3⟩ := st_cm ka rfl la lb lk ls lt lu lz
  have b3 := bw.grown hg3 bw.size (fun k hk => by cases hk; exact hgl)
  have HLD := Lib.hid (blk_loadVar (P := Try.prog) (ty := 36) k3 Try.underlying36 rfl size_cmd)
  have hm1 : ((m1 + 1 : Nat) : Int) - 1 = (m1 : Int) := by omega
  have hm2 : (m1 : Int) + 1 - 1 = (m1 : Int) := by omega
  have hne : (((m1 + 1 : Nat) : Int) == 0) = false := beq_eq_false_iff_ne.2 (by omega)
  have hne2 : ((m1 : Int) + 1 == 0) = false := beq_eq_false_iff_ne.2 (by omega)
  have hm3i : (m1 : Int) < 1000 := by omega
  clear k3 hg3 bw kx ka hr hm hgl hy hl z0 z1 h0 hadl
  go_enter Try.func21, Try.ntmps21
  go_upto_region 1 with fail
  rw [show (w.alloc (.cells #[.int .u8 (id : Int), .int .i64 (n : Int), .slice (some ad) (m1 + 1) k, .bool wt, .int .u8 (dst : Int)] 32)).alloc (.cells #[.int .u8 0, .int .u32 0, .int .u8 0, .string ⟨#[]⟩, .string ⟨#[]⟩, .string ⟨#[]⟩, .int .u8 0] 36) = wA from hup.out, hug.out.2, hug.out.1]
  go_wp2_with (refine wpList_store (by rfl) (.tmp 2) (.tmp 15) (by rfl) (by rfl) (by rfl) hst ?_)
  exact bodyPost_ret (v := .agg #[.int .u8 (la : Int), .int .u32 (lb : Int), .int .u8 (lk : Int), .string ⟨ls.toArray⟩, .string ⟨lt.toArray⟩, .string ⟨lu.toArray⟩, .int .u8 (lz : Int)]) (by simp [results, Try.results21, asAddr, HLD.out, Act.put]) rfl ⟨rfl, b3⟩
end Go.Proofs.Yteiaiilfekojfaa.Cli
