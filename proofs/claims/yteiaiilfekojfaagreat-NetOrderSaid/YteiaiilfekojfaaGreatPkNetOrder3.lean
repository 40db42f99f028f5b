/- Texts that the proof of NetOrder leans on, put together (3 of 4). Conditions: each theorem states its own. -/
import Derived.Test.YteiaiilfekojfaaGreatPkNetOrder2
section
set_option linter.unusedVariables false
set_option linter.unusedSimpArgs false
namespace Go.Proofs.YteiaiilfekojfaaGreat.Msg
open Go.RowKit Sx Wire DrawInv
set_option maxRecDepth 100000 in
set_option maxHeartbeats 4000000 in
theorem equalV (l1 l2 : List Vo) (A B : Option Addr) (k1 k2 : Nat) (w : World) (h1 : Rows w A 4 voL l1) (h2 : Rows w B 4 voL l2) (hl1 : l1.length ≤ 1000000) : Calls Tryz.prog 45 #[.slice A l1.length k1, .slice B l2.length k2] w fun e w' => e = .returned (.bool (decide (l1 = l2))) ∧ Below w.heap.size w w' := by
  refine sx_enter (n := 26) _ Tryz.func45 rfl rfl rfl (Hp.start w) ?_
  refine SxC.seq (SxC.region ?_)
  refine SxL.val trivial rfl rfl (fun ρ w E H => ex_assign E rfl rfl) ?_
  refine SxL.nil (SxN.then_ (SxC.seq (SxC.seq (SxC.region ?_))))
  refine SxL.val trivial rfl rfl (fun ρ w E H => ex_move E rfl rfl) ?_
  refine SxL.val (v := .int .i64 (l1.length : Int)) trivial rfl rfl (fun ρ w E H => ex_lenS E rfl Tryz.underlying25 rfl) ?_
  refine SxL.val trivial rfl rfl (fun ρ w E H => ex_move E rfl rfl) ?_
  refine SxL.val (v := .int .i64 (l2.length : Int)) trivial rfl rfl (fun ρ w E H => ex_lenS E rfl Tryz.underlying25 rfl) ?_
  refine SxL.valB trivial rfl rfl (fun ρ w E H => ex_cmp E rfl rfl rfl rfl rfl) fun c10 hc10 => ?_
  refine SxL.nil (SxN.then_ ?_)
  cases c10
  · refine SxC.condF rfl (SxC.skip (SxN.then_ (SxC.seq (SxC.seq (SxC.region ?_)))))
    refine SxL.val trivial rfl rfl (fun ρ w E H => ex_move E rfl rfl) ?_
    refine SxL.val (v := .int .i64 (l1.length : Int)) trivial rfl rfl (fun ρ w E H => ex_lenS E rfl Tryz.underlying25 rfl) ?_
    refine SxL.val trivial rfl rfl (fun ρ w E H => ex_move E rfl rfl) ?_
    refine SxL.nil (SxN.then_ (SxC.block ?_))
    refine SxC.loop1 (fun (k : Nat) => [(0, .slice A l1.length k1), (1, .slice B l2.length k2), (11, .slice A l1.length k1), (12, .int .i64 (l1.length : Int)), (13, .int .i64 (k : Int))]) (fun (k : Nat) => []) (fun (gk : Nat) (k : Nat) => k + gk = l1.length ∧ l1.take k = l2.take k ∧ l1.length = l2.length) l1.length 0 ⟨by omega, rfl, by have h := hc10; simp [cmpB] at h; omega⟩ ⟨rfl, rfl, rfl, rfl, rfl, trivial⟩ [] rfl (by decide) trivial fun gk k hF => ?_
    obtain ⟨hkg, hrel, hle⟩ := hF
    refine SxC.seq (SxC.region ?_)
    refine SxL.valB trivial rfl rfl (fun ρ w E H => ex_cmp E rfl rfl rfl rfl rfl) fun c14 hc14 => ?_
    refine SxL.nil (SxN.then_ (SxC.seq ?_))
    cases c14
    · refine SxC.condF rfl (SxC.exit (SxX.thenE (SxX.thenE (SxX.blockE (SxN.then_ (SxC.seq (SxC.region ?_)))))))
      refine SxL.val trivial rfl rfl (fun ρ w E H => ex_assign E rfl rfl) ?_
      refine SxL.nil (SxN.then_ (SxC.ret ?_))
      refine SxX.done (.bool true) (fun a w K H => res1 K rfl rfl) (fun w H => ?_)
      have hq : true = decide (l1 = l2) := by
        have h14 := hc14
        simp [cmpB] at h14
        rw [List.take_of_length_le (by omega), List.take_of_length_le (by omega)] at hrel
        simp [hrel]
      exact ⟨by rw [hq], H.toBelow trivial⟩
    · refine SxC.condT rfl (SxC.skip (SxN.then_ (SxC.seq (SxC.block (SxC.seq ?_)))))
      have hkl : k < l1.length := by have h := hc14; simp [cmpB] at h; omega
      have hkl2 : k < l2.length := by omega
      obtain ⟨x, hx⟩ : ∃ x, l1[k]? = some x := ⟨_, List.getElem?_eq_getElem hkl⟩
      obtain ⟨y, hy⟩ : ∃ x, l2[k]? = some x := ⟨_, List.getElem?_eq_getElem hkl2⟩
      obtain ⟨a1, rfl, -, -⟩ := h1.row hx
      obtain ⟨a2, rfl, -, -⟩ := h2.row hy
      refine SxC.region ?_
      refine SxL.val trivial rfl rfl (fun ρ w E H => ex_move E rfl rfl) ?_
      refine SxL.val trivial rfl rfl (fun ρ w E H => ex_assign E rfl rfl) ?_
      refine SxL.nil (SxN.then_ (SxC.seq ?_))
      refine SxC.drawnK [] [] (by kernel_rfl) rfl trivial ?_
      refine SxA.take (i := 0) rfl (by kernel_rfl) (by kernel_rfl) (by kernel_rfl) rfl rfl (fun _ _ _ h => h) trivial (fun ρ w E H => ex_move E rfl rfl) ?_
      refine SxA.take (i := 1) rfl (by kernel_rfl) (by kernel_rfl) (by kernel_rfl) rfl rfl (fun _ _ _ h => h) trivial (fun ρ w E H => ex_move E rfl rfl) ?_
      refine SxA.take (i := 2) (v := .pointer (some (a1.add (k * 4)))) rfl (by kernel_rfl) (by kernel_rfl) (by kernel_rfl) rfl rfl (fun _ _ _ h => h) trivial (fun ρ w E H => ex_index (i := k) E rfl Tryz.underlying25 sz_palaver_api_Vote rfl rfl hkl) ?_
      refine SxA.take (i := 3) (v := .agg #[.int .u64 (x.slot : Int), .int .u64 (x.n : Int), .int .u8 (x.r : Int), .string ⟨x.value.toArray⟩]) rfl (by kernel_rfl) (by kernel_rfl) (by kernel_rfl) rfl rfl (fun _ _ _ h => h) trivial (fun ρ w E H => ex_loadX (cs := [.int .u64 (x.slot : Int), .int .u64 (x.n : Int), .int .u8 (x.r : Int), .string ⟨x.value.toArray⟩]) E ((h1.below (H.os.below (Nat.le_refl _) (by simp))).rowA hx) rfl rfl Tryz.underlying92 rfl sz_palaver_api_Vote) ?_
      refine SxA.take (i := 4) rfl (by kernel_rfl) (by kernel_rfl) (by kernel_rfl) rfl rfl (fun _ _ _ h => h) trivial (fun ρ w E H => ex_move E rfl rfl) ?_
      refine SxA.take (i := 5) rfl (by kernel_rfl) (by kernel_rfl) (by kernel_rfl) rfl rfl (fun _ _ _ h => h) trivial (fun ρ w E H => ex_move E rfl rfl) ?_
      refine SxA.take (i := 6) (v := .pointer (some (a2.add (k * 4)))) rfl (by kernel_rfl) (by kernel_rfl) (by kernel_rfl) rfl rfl (fun _ _ _ h => h) trivial (fun ρ w E H => ex_index (i := k) E rfl Tryz.underlying25 sz_palaver_api_Vote rfl rfl hkl2) ?_
      refine SxA.take (i := 7) (v := .agg #[.int .u64 (y.slot : Int), .int .u64 (y.n : Int), .int .u8 (y.r : Int), .string ⟨y.value.toArray⟩]) rfl (by kernel_rfl) (by kernel_rfl) (by kernel_rfl) rfl rfl (fun _ _ _ h => h) trivial (fun ρ w E H => ex_loadX (cs := [.int .u64 (y.slot : Int), .int .u64 (y.n : Int), .int .u8 (y.r : Int), .string ⟨y.value.toArray⟩]) E ((h2.below (H.os.below (Nat.le_refl _) (by simp))).rowA hy) rfl rfl Tryz.underlying92 rfl sz_palaver_api_Vote) ?_
      refine SxA.takeB (i := 8) rfl (by kernel_rfl) (by kernel_rfl) (by kernel_rfl) rfl rfl (fun _ _ _ h => h) trivial (fun ρ w E H => ex_aneq E rfl (by kernel_rfl) rfl rfl (fun w => by rw [Bool.not_not]; exact eq_vo x y w)) fun c24 hc24 => ?_
      refine SxA.done (by kernel_rfl) ?_
      refine SxN.then_ ?_
      cases c24
      · refine SxC.condF rfl (SxC.skip (SxN.block (SxN.then_ (SxC.region ?_))))
        refine SxL.val (v := .int .i64 ((k + 1 : Nat) : Int)) trivial rfl rfl (fun ρ w E H => ex_add E rfl rfl rfl (by rw [IntKind.wrap_i64]; omega)) ?_
        refine SxL.val trivial rfl rfl (fun ρ w E H => ex_move E rfl rfl) ?_
        refine SxL.nil ?_
        refine SxN.back (gk - 1) (k + 1) (by omega) ⟨by omega, by rw [take_snoc hx, take_snoc hy, hrel]; have h24 : x = y := (by simpa using hc24); rw [h24], hle⟩ ⟨rfl, rfl, rfl, rfl, rfl, trivial⟩ [] rfl (by decide) trivial
      · refine SxC.condT rfl (SxC.seq (SxC.region ?_))
        refine SxL.val trivial rfl rfl (fun ρ w E H => ex_assign E rfl rfl) ?_
        refine SxL.nil (SxN.then_ (SxC.ret (SxX.blockR (SxX.thenR (SxX.thenR (SxX.blockR (SxX.thenR ?_)))))))
        refine SxX.done (.bool false) (fun a w K H => res1 K rfl rfl) (fun w H => ?_)
        have hq : false = decide (l1 = l2) := by
          have h24 : x ≠ y := by simpa using hc24
          symm; apply decide_eq_false; rintro rfl; rw [hx] at hy; exact h24 (Option.some.inj hy)
        exact ⟨by rw [hq], H.toBelow trivial⟩
  · refine SxC.condT rfl (SxC.seq (SxC.region ?_))
    refine SxL.val trivial rfl rfl (fun ρ w E H => ex_assign E rfl rfl) ?_
    refine SxL.nil (SxN.then_ (SxC.ret (SxX.thenR ?_)))
    refine SxX.done (.bool false) (fun a w K H => res1 K rfl rfl) (fun w H => ?_)
    have hq : false = decide (l1 = l2) := by
      have h10 := hc10
      simp [cmpB] at h10
      symm; apply decide_eq_false; rintro rfl; omega
    exact ⟨by rw [hq], H.toBelow trivial⟩

set_option maxRecDepth 100000 in
set_option maxHeartbeats 4000000 in
theorem equalI (l1 l2 : List Im) (A B : Option Addr) (k1 k2 : Nat) (w : World) (h1 : Rows w A 2 imL l1) (h2 : Rows w B 2 imL l2) (hl1 : l1.length ≤ 1000000) : Calls Tryz.prog 46 #[.slice A l1.length k1, .slice B l2.length k2] w fun e w' => e = .returned (.bool (decide (l1 = l2))) ∧ Below w.heap.size w w' := by
  refine sx_enter (n := 26) _ Tryz.func46 rfl rfl rfl (Hp.start w) ?_
  refine SxC.seq (SxC.region ?_)
  refine SxL.val trivial rfl rfl (fun ρ w E H => ex_assign E rfl rfl) ?_
  refine SxL.nil (SxN.then_ (SxC.seq (SxC.seq (SxC.region ?_))))
  refine SxL.val trivial rfl rfl (fun ρ w E H => ex_move E rfl rfl) ?_
  refine SxL.val (v := .int .i64 (l1.length : Int)) trivial rfl rfl (fun ρ w E H => ex_lenS E rfl Tryz.underlying26 rfl) ?_
  refine SxL.val trivial rfl rfl (fun ρ w E H => ex_move E rfl rfl) ?_
  refine SxL.val (v := .int .i64 (l2.length : Int)) trivial rfl rfl (fun ρ w E H => ex_lenS E rfl Tryz.underlying26 rfl) ?_
  refine SxL.valB trivial rfl rfl (fun ρ w E H => ex_cmp E rfl rfl rfl rfl rfl) fun c10 hc10 => ?_
  refine SxL.nil (SxN.then_ ?_)
  cases c10
  · refine SxC.condF rfl (SxC.skip (SxN.then_ (SxC.seq (SxC.seq (SxC.region ?_)))))
    refine SxL.val trivial rfl rfl (fun ρ w E H => ex_move E rfl rfl) ?_
    refine SxL.val (v := .int .i64 (l1.length : Int)) trivial rfl rfl (fun ρ w E H => ex_lenS E rfl Tryz.underlying26 rfl) ?_
    refine SxL.val trivial rfl rfl (fun ρ w E H => ex_move E rfl rfl) ?_
    refine SxL.nil (SxN.then_ (SxC.block ?_))
    refine SxC.loop1 (fun (k : Nat) => [(0, .slice A l1.length k1), (1, .slice B l2.length k2), (11, .slice A l1.length k1), (12, .int .i64 (l1.length : Int)), (13, .int .i64 (k : Int))]) (fun (k : Nat) => []) (fun (gk : Nat) (k : Nat) => k + gk = l1.length ∧ l1.take k = l2.take k ∧ l1.length = l2.length) l1.length 0 ⟨by omega, rfl, by have h := hc10; simp [cmpB] at h; omega⟩ ⟨rfl, rfl, rfl, rfl, rfl, trivial⟩ [] rfl (by decide) trivial fun gk k hF => ?_
    obtain ⟨hkg, hrel, hle⟩ := hF
    refine SxC.seq (SxC.region ?_)
    refine SxL.valB trivial rfl rfl (fun ρ w E H => ex_cmp E rfl rfl rfl rfl rfl) fun c14 hc14 => ?_
    refine SxL.nil (SxN.then_ (SxC.seq ?_))
    cases c14
    · refine SxC.condF rfl (SxC.exit (SxX.thenE (SxX.thenE (SxX.blockE (SxN.then_ (SxC.seq (SxC.region ?_)))))))
      refine SxL.val trivial rfl rfl (fun ρ w E H => ex_assign E rfl rfl) ?_
      refine SxL.nil (SxN.then_ (SxC.ret ?_))
      refine SxX.done (.bool true) (fun a w K H => res1 K rfl rfl) (fun w H => ?_)
      have hq : true = decide (l1 = l2) := by
        have h14 := hc14
        simp [cmpB] at h14
        rw [List.take_of_length_le (by omega), List.take_of_length_le (by omega)] at hrel
        simp [hrel]
      exact ⟨by rw [hq], H.toBelow trivial⟩
    · refine SxC.condT rfl (SxC.skip (SxN.then_ (SxC.seq (SxC.block (SxC.seq ?_)))))
      have hkl : k < l1.length := by have h := hc14; simp [cmpB] at h; omega
      have hkl2 : k < l2.length := by omega
      obtain ⟨x, hx⟩ : ∃ x, l1[k]? = some x := ⟨_, List.getElem?_eq_getElem hkl⟩
      obtain ⟨y, hy⟩ : ∃ x, l2[k]? = some x := ⟨_, List.getElem?_eq_getElem hkl2⟩
      obtain ⟨a1, rfl, -, -⟩ := h1.row hx
      obtain ⟨a2, rfl, -, -⟩ := h2.row hy
      refine SxC.region ?_
      refine SxL.val trivial rfl rfl (fun ρ w E H => ex_move E rfl rfl) ?_
      refine SxL.val trivial rfl rfl (fun ρ w E H => ex_assign E rfl rfl) ?_
      refine SxL.nil (SxN.then_ (SxC.seq ?_))
      refine SxC.drawnK [] [] (by kernel_rfl) rfl trivial ?_
      refine SxA.take (i := 0) rfl (by kernel_rfl) (by kernel_rfl) (by kernel_rfl) rfl rfl (fun _ _ _ h => h) trivial (fun ρ w E H => ex_move E rfl rfl) ?_
      refine SxA.take (i := 1) rfl (by kernel_rfl) (by kernel_rfl) (by kernel_rfl) rfl rfl (fun _ _ _ h => h) trivial (fun ρ w E H => ex_move E rfl rfl) ?_
      refine SxA.take (i := 2) (v := .pointer (some (a1.add (k * 2)))) rfl (by kernel_rfl) (by kernel_rfl) (by kernel_rfl) rfl rfl (fun _ _ _ h => h) trivial (fun ρ w E H => ex_index (i := k) E rfl Tryz.underlying26 sz_palaver_api_Item rfl rfl hkl) ?_
      refine SxA.take (i := 3) (v := .agg #[.int .u64 (x.slot : Int), .string ⟨x.value.toArray⟩]) rfl (by kernel_rfl) (by kernel_rfl) (by kernel_rfl) rfl rfl (fun _ _ _ h => h) trivial (fun ρ w E H => ex_loadX (cs := [.int .u64 (x.slot : Int), .string ⟨x.value.toArray⟩]) E ((h1.below (H.os.below (Nat.le_refl _) (by simp))).rowA hx) rfl rfl Tryz.underlying94 rfl sz_palaver_api_Item) ?_
      refine SxA.take (i := 4) rfl (by kernel_rfl) (by kernel_rfl) (by kernel_rfl) rfl rfl (fun _ _ _ h => h) trivial (fun ρ w E H => ex_move E rfl rfl) ?_
      refine SxA.take (i := 5) rfl (by kernel_rfl) (by kernel_rfl) (by kernel_rfl) rfl rfl (fun _ _ _ h => h) trivial (fun ρ w E H => ex_move E rfl rfl) ?_
      refine SxA.take (i := 6) (v := .pointer (some (a2.add (k * 2)))) rfl (by kernel_rfl) (by kernel_rfl) (by kernel_rfl) rfl rfl (fun _ _ _ h => h) trivial (fun ρ w E H => ex_index (i := k) E rfl Tryz.underlying26 sz_palaver_api_Item rfl rfl hkl2) ?_
      refine SxA.take (i := 7) (v := .agg #[.int .u64 (y.slot : Int), .string ⟨y.value.toArray⟩]) rfl (by kernel_rfl) (by kernel_rfl) (by kernel_rfl) rfl rfl (fun _ _ _ h => h) trivial (fun ρ w E H => ex_loadX (cs := [.int .u64 (y.slot : Int), .string ⟨y.value.toArray⟩]) E ((h2.below (H.os.below (Nat.le_refl _) (by simp))).rowA hy) rfl rfl Tryz.underlying94 rfl sz_palaver_api_Item) ?_
      refine SxA.takeB (i := 8) rfl (by kernel_rfl) (by kernel_rfl) (by kernel_rfl) rfl rfl (fun _ _ _ h => h) trivial (fun ρ w E H => ex_aneq E rfl (by kernel_rfl) rfl rfl (fun w => by rw [Bool.not_not]; exact eq_im x y w)) fun c24 hc24 => ?_
      refine SxA.done (by kernel_rfl) ?_
      refine SxN.then_ ?_
      cases c24
      · refine SxC.condF rfl (SxC.skip (SxN.block (SxN.then_ (SxC.region ?_))))
        refine SxL.val (v := .int .i64 ((k + 1 : Nat) : Int)) trivial rfl rfl (fun ρ w E H => ex_add E rfl rfl rfl (by rw [IntKind.wrap_i64]; omega)) ?_
        refine SxL.val trivial rfl rfl (fun ρ w E H => ex_move E rfl rfl) ?_
        refine SxL.nil ?_
        refine SxN.back (gk - 1) (k + 1) (by omega) ⟨by omega, by rw [take_snoc hx, take_snoc hy, hrel]; have h24 : x = y := (by simpa using hc24); rw [h24], hle⟩ ⟨rfl, rfl, rfl, rfl, rfl, trivial⟩ [] rfl (by decide) trivial
      · refine SxC.condT rfl (SxC.seq (SxC.region ?_))
        refine SxL.val trivial rfl rfl (fun ρ w E H => ex_assign E rfl rfl) ?_
        refine SxL.nil (SxN.then_ (SxC.ret (SxX.blockR (SxX.thenR (SxX.thenR (SxX.blockR (SxX.thenR ?_)))))))
        refine SxX.done (.bool false) (fun a w K H => res1 K rfl rfl) (fun w H => ?_)
        have hq : false = decide (l1 = l2) := by
          have h24 : x ≠ y := by simpa using hc24
          symm; apply decide_eq_false; rintro rfl; rw [hx] at hy; exact h24 (Option.some.inj hy)
        exact ⟨by rw [hq], H.toBelow trivial⟩
  · refine SxC.condT rfl (SxC.seq (SxC.region ?_))
    refine SxL.val trivial rfl rfl (fun ρ w E H => ex_assign E rfl rfl) ?_
    refine SxL.nil (SxN.then_ (SxC.ret (SxX.thenR ?_)))
    refine SxX.done (.bool false) (fun a w K H => res1 K rfl rfl) (fun w H => ?_)
    have hq : false = decide (l1 = l2) := by
      have h10 := hc10
      simp [cmpB] at h10
      symm; apply decide_eq_false; rintro rfl; omega
    exact ⟨by rw [hq], H.toBelow trivial⟩

set_option maxRecDepth 100000 in
set_option maxHeartbeats 4000000 in
theorem same_lit (mk mn mr mb ms mo ca cb ck cz mc : Nat) (mv cs ct cu mt : List UInt8) (vl : List Vo) (il : List Im)(xk xn xr xb xs xo da db dk dz xc : Nat) (xv ds dt du xt : List UInt8) (wl : List Vo) (jl : List Im) (A B : Option Addr) (ka kb : Nat) (C D : Option Addr) (kc kd : Nat) (w : World) (hv : Rows w A 4 voL vl) (hi : Rows w B 2 imL il) (hv2 : Rows w C 4 voL wl) (hi2 : Rows w D 2 imL jl) (hl1 : vl.length ≤ 1000000) (hl2 : il.length ≤ 1000000) : Calls Tryz.prog 15 #[.agg #[.int .u8 (mk : Int), .int .u64 (mn : Int), .int .u8 (mr : Int), .int .u64 (mb : Int), .int .u64 (ms : Int), .int .u8 (mo : Int), .string ⟨mv.toArray⟩, .slice A vl.length ka, .slice B il.length kb, .int .u8 (ca : Int), .int .u32 (cb : Int), .int .u8 (ck : Int), .string ⟨cs.toArray⟩, .string ⟨ct.toArray⟩, .string ⟨cu.toArray⟩, .int .u8 (cz : Int), .int .u8 (mc : Int), .string ⟨mt.toArray⟩], .agg #[.int .u8 (xk : Int), .int .u64 (xn : Int), .int .u8 (xr : Int), .int .u64 (xb : Int), .int .u64 (xs : Int), .int .u8 (xo : Int), .string ⟨xv.toArray⟩, .slice C wl.length kc, .slice D jl.length kd, .int .u8 (da : Int), .int .u32 (db : Int), .int .u8 (dk : Int), .string ⟨ds.toArray⟩, .string ⟨dt.toArray⟩, .string ⟨du.toArray⟩, .int .u8 (dz : Int), .int .u8 (xc : Int), .string ⟨xt.toArray⟩]] w fun e w' => e = .returned (.bool (decide ((⟨mk, mn, mr, mb, ms, mo, mv, vl, il, ⟨ca, cb, ck, cs, ct, cu, cz⟩, mc, mt⟩ : Ms) = ⟨xk, xn, xr, xb, xs, xo, xv, wl, jl, ⟨da, db, dk, ds, dt, du, dz⟩, xc, xt⟩))) ∧ Below w.heap.size w w' := by
  refine sx_enter (n := 73) _ Tryz.func15 rfl rfl rfl (Hp.start w) ?_
  refine SxC.seq (SxC.region ?_)
  refine SxL.new (cs := [.int .u8 (mk : Int), .int .u64 (mn : Int), .int .u8 (mr : Int), .int .u64 (mb : Int), .int .u64 (ms : Int), .int .u8 (mo : Int), .string ⟨mv.toArray⟩, .slice A vl.length ka, .slice B il.length kb, .int .u8 (ca : Int), .int .u32 (cb : Int), .int .u8 (ck : Int), .string ⟨cs.toArray⟩, .string ⟨ct.toArray⟩, .string ⟨cu.toArray⟩, .int .u8 (cz : Int), .int .u8 (mc : Int), .string ⟨mt.toArray⟩]) trivial rfl rfl (fun ρ w E H => ex_box E rfl rfl rfl) fun g1 hg1 => ?_
  refine SxL.new (cs := [.int .u8 (xk : Int), .int .u64 (xn : Int), .int .u8 (xr : Int), .int .u64 (xb : Int), .int .u64 (xs : Int), .int .u8 (xo : Int), .string ⟨xv.toArray⟩, .slice C wl.length kc, .slice D jl.length kd, .int .u8 (da : Int), .int .u32 (db : Int), .int .u8 (dk : Int), .string ⟨ds.toArray⟩, .string ⟨dt.toArray⟩, .string ⟨du.toArray⟩, .int .u8 (dz : Int), .int .u8 (xc : Int), .string ⟨xt.toArray⟩]) trivial rfl rfl (fun ρ w E H => ex_box E rfl rfl rfl) fun g2 hg2 => ?_
  refine SxL.val trivial rfl rfl (fun ρ w E H => ex_assign E rfl rfl) ?_
  refine SxL.nil (SxN.then_ (SxC.seq (SxC.region ?_)))
  refine SxL.val (v := .pointer (some ⟨g1, 0, none⟩)) trivial rfl rfl (fun ρ w E H => ex_field E rfl fa_palaver_api_Msg_0 rfl rfl) ?_
  refine SxL.val trivial rfl rfl (fun ρ w E H => ex_load1 E (H.get (i := 1) rfl) rfl rfl Tryz.underlying5 rfl rfl) ?_
  refine SxL.val (v := .pointer (some ⟨g2, 0, none⟩)) trivial rfl rfl (fun ρ w E H => ex_field E rfl fa_palaver_api_Msg_0 rfl rfl) ?_
  refine SxL.val trivial rfl rfl (fun ρ w E H => ex_load1 E (H.get (i := 0) rfl) rfl rfl Tryz.underlying5 rfl rfl) ?_
  refine SxL.valB trivial rfl rfl (fun ρ w E H => ex_cmp E rfl rfl rfl rfl rfl) fun c9 hc9 => ?_
  refine SxL.val trivial rfl rfl (fun ρ w E H => ex_move E rfl rfl) ?_
  cases c9
  · refine SxL.off ⟨_, _, _, rfl, rfl, rfl, nofun⟩ rfl rfl ?_
    iterate 4 refine SxL.off ⟨_, _, _, rfl, rfl, rfl, nofun⟩ rfl rfl ?_
    refine SxL.val trivial rfl rfl (fun ρ w E H => ex_pick E rfl (t := false) rfl rfl) ?_
    refine SxL.val trivial rfl rfl (fun ρ w E H => ex_move E rfl rfl) ?_
    iterate 5 refine SxL.off ⟨_, _, _, rfl, rfl, rfl, nofun⟩ rfl rfl ?_
    refine SxL.val trivial rfl rfl (fun ρ w E H => ex_pick E rfl (t := false) rfl rfl) ?_
    refine SxL.val trivial rfl rfl (fun ρ w E H => ex_move E rfl rfl) ?_
    iterate 5 refine SxL.off ⟨_, _, _, rfl, rfl, rfl, nofun⟩ rfl rfl ?_
    refine SxL.val trivial rfl rfl (fun ρ w E H => ex_pick E rfl (t := false) rfl rfl) ?_
    refine SxL.val trivial rfl rfl (fun ρ w E H => ex_move E rfl rfl) ?_
    iterate 5 refine SxL.off ⟨_, _, _, rfl, rfl, rfl, nofun⟩ rfl rfl ?_
    refine SxL.val trivial rfl rfl (fun ρ w E H => ex_pick E rfl (t := false) rfl rfl) ?_
    refine SxL.val trivial rfl rfl (fun ρ w E H => ex_move E rfl rfl) ?_
    iterate 5 refine SxL.off ⟨_, _, _, rfl, rfl, rfl, nofun⟩ rfl rfl ?_
    refine SxL.val trivial rfl rfl (fun ρ w E H => ex_pick E rfl (t := false) rfl rfl) ?_
    refine SxL.val trivial rfl rfl (fun ρ w E H => ex_move E rfl rfl) ?_
    iterate 5 refine SxL.off ⟨_, _, _, rfl, rfl, rfl, nofun⟩ rfl rfl ?_
    refine SxL.val trivial rfl rfl (fun ρ w E H => ex_pick E rfl (t := false) rfl rfl) ?_
    refine SxL.val trivial rfl rfl (fun ρ w E H => ex_move E rfl rfl) ?_
    iterate 5 refine SxL.off ⟨_, _, _, rfl, rfl, rfl, nofun⟩ rfl rfl ?_
    refine SxL.val trivial rfl rfl (fun ρ w E H => ex_pick E rfl (t := false) rfl rfl) ?_
    refine SxL.val trivial rfl rfl (fun ρ w E H => ex_move E rfl rfl) ?_
    iterate 5 refine SxL.off ⟨_, _, _, rfl, rfl, rfl, nofun⟩ rfl rfl ?_
    refine SxL.val trivial rfl rfl (fun ρ w E H => ex_pick E rfl (t := false) rfl rfl) ?_
    refine SxL.val trivial rfl rfl (fun ρ w E H => ex_move E rfl rfl) ?_
    iterate 5 refine SxL.off ⟨_, _, _, rfl, rfl, rfl, nofun⟩ rfl rfl ?_
    refine SxL.val trivial rfl rfl (fun ρ w E H => ex_pick E rfl (t := false) rfl rfl) ?_
    refine SxL.val trivial rfl rfl (fun ρ w E H => ex_assign E rfl rfl) ?_
    refine SxL.nil (SxN.then_ (SxC.ret ?_))
    refine SxX.done (.bool false) (fun a w K H => res1 K rfl rfl) (fun w H => ?_)
    have hq : false = decide ((⟨mk, mn, mr, mb, ms, mo, mv, vl, il, ⟨ca, cb, ck, cs, ct, cu, cz⟩, mc, mt⟩ : Ms) = ⟨xk, xn, xr, xb, xs, xo, xv, wl, jl, ⟨da, db, dk, ds, dt, du, dz⟩, xc, xt⟩) := by clear H; grind [cmpB]
    exact ⟨by rw [hq], H.toBelow ⟨(fun g hg => by rw [List.mem_singleton.1 hg]; exact hg2), (fun g hg => by rw [List.mem_singleton.1 hg]; exact hg1), trivial⟩⟩
  · refine SxL.val (v := .pointer (some ⟨g1, 1, none⟩)) ⟨_, _, rfl, rfl, rfl⟩ rfl rfl (fun ρ w E H => ex_field E rfl fa_palaver_api_Msg_1 rfl rfl) ?_
    refine SxL.val ⟨_, _, rfl, rfl, rfl⟩ rfl rfl (fun ρ w E H => ex_load (part := [.int .u64 (mn : Int), .int .u8 (mr : Int)]) E (H.get (i := 1) rfl) rfl rfl Tryz.underlying24 rfl sz_palaver_api_Ballot rfl rfl) ?_
    refine SxL.val (v := .pointer (some ⟨g2, 1, none⟩)) ⟨_, _, rfl, rfl, rfl⟩ rfl rfl (fun ρ w E H => ex_field E rfl fa_palaver_api_Msg_1 rfl rfl) ?_
    refine SxL.val ⟨_, _, rfl, rfl, rfl⟩ rfl rfl (fun ρ w E H => ex_load (part := [.int .u64 (xn : Int), .int .u8 (xr : Int)]) E (H.get (i := 0) rfl) rfl rfl Tryz.underlying24 rfl sz_palaver_api_Ballot rfl rfl) ?_
    refine SxL.valB ⟨_, _, rfl, rfl, rfl⟩ rfl rfl (fun ρ w E H => ex_aeql E rfl (by kernel_rfl) rfl rfl (fun w => eq_bal mn mr xn xr w)) fun c15 hc15 => ?_
    refine SxL.val trivial rfl rfl (fun ρ w E H => ex_pick E rfl (t := true) rfl rfl) ?_
    refine SxL.val trivial rfl rfl (fun ρ w E H => ex_move E rfl rfl) ?_
    cases c15
    · refine SxL.off ⟨_, _, _, rfl, rfl, rfl, nofun⟩ rfl rfl ?_
      iterate 4 refine SxL.off ⟨_, _, _, rfl, rfl, rfl, nofun⟩ rfl rfl ?_
      refine SxL.val trivial rfl rfl (fun ρ w E H => ex_pick E rfl (t := false) rfl rfl) ?_
      refine SxL.val trivial rfl rfl (fun ρ w E H => ex_move E rfl rfl) ?_
      iterate 5 refine SxL.off ⟨_, _, _, rfl, rfl, rfl, nofun⟩ rfl rfl ?_
      refine SxL.val trivial rfl rfl (fun ρ w E H => ex_pick E rfl (t := false) rfl rfl) ?_
      refine SxL.val trivial rfl rfl (fun ρ w E H => ex_move E rfl rfl) ?_
      iterate 5 refine SxL.off ⟨_, _, _, rfl, rfl, rfl, nofun⟩ rfl rfl ?_
      refine SxL.val trivial rfl rfl (fun ρ w E H => ex_pick E rfl (t := false) rfl rfl) ?_
      refine SxL.val trivial rfl rfl (fun ρ w E H => ex_move E rfl rfl) ?_
      iterate 5 refine SxL.off ⟨_, _, _, rfl, rfl, rfl, nofun⟩ rfl rfl ?_
      refine SxL.val trivial rfl rfl (fun ρ w E H => ex_pick E rfl (t := false) rfl rfl) ?_
      refine SxL.val trivial rfl rfl (fun ρ w E H => ex_move E rfl rfl) ?_
      iterate 5 refine SxL.off ⟨_, _, _, rfl, rfl, rfl, nofun⟩ rfl rfl ?_
      refine SxL.val trivial rfl rfl (fun ρ w E H => ex_pick E rfl (t := false) rfl rfl) ?_
      refine SxL.val trivial rfl rfl (fun ρ w E H => ex_move E rfl rfl) ?_
      iterate 5 refine SxL.off ⟨_, _, _, rfl, rfl, rfl, nofun⟩ rfl rfl ?_
      refine SxL.val trivial rfl rfl (fun ρ w E H => ex_pick E rfl (t := false) rfl rfl) ?_
      refine SxL.val trivial rfl rfl (fun ρ w E H => ex_move E rfl rfl) ?_
      iterate 5 refine SxL.off ⟨_, _, _, rfl, rfl, rfl, nofun⟩ rfl rfl ?_
      refine SxL.val trivial rfl rfl (fun ρ w E H => ex_pick E rfl (t := false) rfl rfl) ?_
      refine SxL.val trivial rfl rfl (fun ρ w E H => ex_move E rfl rfl) ?_
      iterate 5 refine SxL.off ⟨_, _, _, rfl, rfl, rfl, nofun⟩ rfl rfl ?_
      refine SxL.val trivial rfl rfl (fun ρ w E H => ex_pick E rfl (t := false) rfl rfl) ?_
      refine SxL.val trivial rfl rfl (fun ρ w E H => ex_assign E rfl rfl) ?_
      refine SxL.nil (SxN.then_ (SxC.ret ?_))
      refine SxX.done (.bool false) (fun a w K H => res1 K rfl rfl) (fun w H => ?_)
      have hq : false = decide ((⟨mk, mn, mr, mb, ms, mo, mv, vl, il, ⟨ca, cb, ck, cs, ct, cu, cz⟩, mc, mt⟩ : Ms) = ⟨xk, xn, xr, xb, xs, xo, xv, wl, jl, ⟨da, db, dk, ds, dt, du, dz⟩, xc, xt⟩) := by clear H; grind [cmpB]
      exact ⟨by rw [hq], H.toBelow ⟨(fun g hg => by rw [List.mem_singleton.1 hg]; exact hg2), (fun g hg => by rw [List.mem_singleton.1 hg]; exact hg1), trivial⟩⟩
    · refine SxL.val (v := .pointer (some ⟨g1, 3, none⟩)) ⟨_, _, rfl, rfl, rfl⟩ rfl rfl (fun ρ w E H => ex_field E rfl fa_palaver_api_Msg_2 rfl rfl) ?_
      refine SxL.val ⟨_, _, rfl, rfl, rfl⟩ rfl rfl (fun ρ w E H => ex_load1 E (H.get (i := 1) rfl) rfl rfl Tryz.underlying22 rfl rfl) ?_
      refine SxL.val (v := .pointer (some ⟨g2, 3, none⟩)) ⟨_, _, rfl, rfl, rfl⟩ rfl rfl (fun ρ w E H => ex_field E rfl fa_palaver_api_Msg_2 rfl rfl) ?_
      refine SxL.val ⟨_, _, rfl, rfl, rfl⟩ rfl rfl (fun ρ w E H => ex_load1 E (H.get (i := 0) rfl) rfl rfl Tryz.underlying22 rfl rfl) ?_
      refine SxL.valB ⟨_, _, rfl, rfl, rfl⟩ rfl rfl (fun ρ w E H => ex_cmp E rfl rfl rfl rfl rfl) fun c22 hc22 => ?_
      refine SxL.val trivial rfl rfl (fun ρ w E H => ex_pick E rfl (t := true) rfl rfl) ?_
      refine SxL.val trivial rfl rfl (fun ρ w E H => ex_move E rfl rfl) ?_
      cases c22
      · refine SxL.off ⟨_, _, _, rfl, rfl, rfl, nofun⟩ rfl rfl ?_
        iterate 4 refine SxL.off ⟨_, _, _, rfl, rfl, rfl, nofun⟩ rfl rfl ?_
        refine SxL.val trivial rfl rfl (fun ρ w E H => ex_pick E rfl (t := false) rfl rfl) ?_
        refine SxL.val trivial rfl rfl (fun ρ w E H => ex_move E rfl rfl) ?_
        iterate 5 refine SxL.off ⟨_, _, _, rfl, rfl, rfl, nofun⟩ rfl rfl ?_
        refine SxL.val trivial rfl rfl (fun ρ w E H => ex_pick E rfl (t := false) rfl rfl) ?_
        refine SxL.val trivial rfl rfl (fun ρ w E H => ex_move E rfl rfl) ?_
        iterate 5 refine SxL.off ⟨_, _, _, rfl, rfl, rfl, nofun⟩ rfl rfl ?_
        refine SxL.val trivial rfl rfl (fun ρ w E H => ex_pick E rfl (t := false) rfl rfl) ?_
        refine SxL.val trivial rfl rfl (fun ρ w E H => ex_move E rfl rfl) ?_
        iterate 5 refine SxL.off ⟨_, _, _, rfl, rfl, rfl, nofun⟩ rfl rfl ?_
        refine SxL.val trivial rfl rfl (fun ρ w E H => ex_pick E rfl (t := false) rfl rfl) ?_
        refine SxL.val trivial rfl rfl (fun ρ w E H => ex_move E rfl rfl) ?_
        iterate 5 refine SxL.off ⟨_, _, _, rfl, rfl, rfl, nofun⟩ rfl rfl ?_
        refine SxL.val trivial rfl rfl (fun ρ w E H => ex_pick E rfl (t := false) rfl rfl) ?_
        refine SxL.val trivial rfl rfl (fun ρ w E H => ex_move E rfl rfl) ?_
        iterate 5 refine SxL.off ⟨_, _, _, rfl, rfl, rfl, nofun⟩ rfl rfl ?_
        refine SxL.val trivial rfl rfl (fun ρ w E H => ex_pick E rfl (t := false) rfl rfl) ?_
        refine SxL.val trivial rfl rfl (fun ρ w E H => ex_move E rfl rfl) ?_
        iterate 5 refine SxL.off ⟨_, _, _, rfl, rfl, rfl, nofun⟩ rfl rfl ?_
        refine SxL.val trivial rfl rfl (fun ρ w E H => ex_pick E rfl (t := false) rfl rfl) ?_
        refine SxL.val trivial rfl rfl (fun ρ w E H => ex_assign E rfl rfl) ?_
        refine SxL.nil (SxN.then_ (SxC.ret ?_))
        refine SxX.done (.bool false) (fun a w K H => res1 K rfl rfl) (fun w H => ?_)
        have hq : false = decide ((⟨mk, mn, mr, mb, ms, mo, mv, vl, il, ⟨ca, cb, ck, cs, ct, cu, cz⟩, mc, mt⟩ : Ms) = ⟨xk, xn, xr, xb, xs, xo, xv, wl, jl, ⟨da, db, dk, ds, dt, du, dz⟩, xc, xt⟩) := by clear H; grind [cmpB]
        exact ⟨by rw [hq], H.toBelow ⟨(fun g hg => by rw [List.mem_singleton.1 hg]; exact hg2), (fun g hg => by rw [List.mem_singleton.1 hg]; exact hg1), trivial⟩⟩
      · refine SxL.val (v := .pointer (some ⟨g1, 4, none⟩)) ⟨_, _, rfl, rfl, rfl⟩ rfl rfl (fun ρ w E H => ex_field E rfl fa_palaver_api_Msg_3 rfl rfl) ?_
        refine SxL.val ⟨_, _, rfl, rfl, rfl⟩ rfl rfl (fun ρ w E H => ex_load1 E (H.get (i := 1) rfl) rfl rfl Tryz.underlying22 rfl rfl) ?_
        refine SxL.val (v := .pointer (some ⟨g2, 4, none⟩)) ⟨_, _, rfl, rfl, rfl⟩ rfl rfl (fun ρ w E H => ex_field E rfl fa_palaver_api_Msg_3 rfl rfl) ?_
        refine SxL.val ⟨_, _, rfl, rfl, rfl⟩ rfl rfl (fun ρ w E H => ex_load1 E (H.get (i := 0) rfl) rfl rfl Tryz.underlying22 rfl rfl) ?_
        refine SxL.valB ⟨_, _, rfl, rfl, rfl⟩ rfl rfl (fun ρ w E H => ex_cmp E rfl rfl rfl rfl rfl) fun c29 hc29 => ?_
        refine SxL.val trivial rfl rfl (fun ρ w E H => ex_pick E rfl (t := true) rfl rfl) ?_
        refine SxL.val trivial rfl rfl (fun ρ w E H => ex_move E rfl rfl) ?_
        cases c29
        · refine SxL.off ⟨_, _, _, rfl, rfl, rfl, nofun⟩ rfl rfl ?_
          iterate 4 refine SxL.off ⟨_, _, _, rfl, rfl, rfl, nofun⟩ rfl rfl ?_
          refine SxL.val trivial rfl rfl (fun ρ w E H => ex_pick E rfl (t := false) rfl rfl) ?_
          refine SxL.val trivial rfl rfl (fun ρ w E H => ex_move E rfl rfl) ?_
          iterate 5 refine SxL.off ⟨_, _, _, rfl, rfl, rfl, nofun⟩ rfl rfl ?_
          refine SxL.val trivial rfl rfl (fun ρ w E H => ex_pick E rfl (t := false) rfl rfl) ?_
          refine SxL.val trivial rfl rfl (fun ρ w E H => ex_move E rfl rfl) ?_
          iterate 5 refine SxL.off ⟨_, _, _, rfl, rfl, rfl, nofun⟩ rfl rfl ?_
          refine SxL.val trivial rfl rfl (fun ρ w E H => ex_pick E rfl (t := false) rfl rfl) ?_
          refine SxL.val trivial rfl rfl (fun ρ w E H => ex_move E rfl rfl) ?_
          iterate 5 refine SxL.off ⟨_, _, _, rfl, rfl, rfl, nofun⟩ rfl rfl ?_
          refine SxL.val trivial rfl rfl (fun ρ w E H => ex_pick E rfl (t := false) rfl rfl) ?_
          refine SxL.val trivial rfl rfl (fun ρ w E H => ex_move E rfl rfl) ?_
          iterate 5 refine SxL.off ⟨_, _, _, rfl, rfl, rfl, nofun⟩ rfl rfl ?_
          refine SxL.val trivial rfl rfl (fun ρ w E H => ex_pick E rfl (t := false) rfl rfl) ?_
          refine SxL.val trivial rfl rfl (fun ρ w E H => ex_move E rfl rfl) ?_
          iterate 5 refine SxL.off ⟨_, _, _, rfl, rfl, rfl, nofun⟩ rfl rfl ?_
          refine SxL.val trivial rfl rfl (fun ρ w E H => ex_pick E rfl (t := false) rfl rfl) ?_
          refine SxL.val trivial rfl rfl (fun ρ w E H => ex_assign E rfl rfl) ?_
          refine SxL.nil (SxN.then_ (SxC.ret ?_))
          refine SxX.done (.bool false) (fun a w K H => res1 K rfl rfl) (fun w H => ?_)
          have hq : false = decide ((⟨mk, mn, mr, mb, ms, mo, mv, vl, il, ⟨ca, cb, ck, cs, ct, cu, cz⟩, mc, mt⟩ : Ms) = ⟨xk, xn, xr, xb, xs, xo, xv, wl, jl, ⟨da, db, dk, ds, dt, du, dz⟩, xc, xt⟩) := by clear H; grind [cmpB]
          exact ⟨by rw [hq], H.toBelow ⟨(fun g hg => by rw [List.mem_singleton.1 hg]; exact hg2), (fun g hg => by rw [List.mem_singleton.1 hg]; exact hg1), trivial⟩⟩
        · refine SxL.val (v := .pointer (some ⟨g1, 5, none⟩)) ⟨_, _, rfl, rfl, rfl⟩ rfl rfl (fun ρ w E H => ex_field E rfl fa_palaver_api_Msg_4 rfl rfl) ?_
          refine SxL.val ⟨_, _, rfl, rfl, rfl⟩ rfl rfl (fun ρ w E H => ex_load1 E (H.get (i := 1) rfl) rfl rfl Tryz.underlying5 rfl rfl) ?_
          refine SxL.val (v := .pointer (some ⟨g2, 5, none⟩)) ⟨_, _, rfl, rfl, rfl⟩ rfl rfl (fun ρ w E H => ex_field E rfl fa_palaver_api_Msg_4 rfl rfl) ?_
          refine SxL.val ⟨_, _, rfl, rfl, rfl⟩ rfl rfl (fun ρ w E H => ex_load1 E (H.get (i := 0) rfl) rfl rfl Tryz.underlying5 rfl rfl) ?_
          refine SxL.valB ⟨_, _, rfl, rfl, rfl⟩ rfl rfl (fun ρ w E H => ex_cmp E rfl rfl rfl rfl rfl) fun c36 hc36 => ?_
          refine SxL.val trivial rfl rfl (fun ρ w E H => ex_pick E rfl (t := true) rfl rfl) ?_
          refine SxL.val trivial rfl rfl (fun ρ w E H => ex_move E rfl rfl) ?_
          cases c36
          · refine SxL.off ⟨_, _, _, rfl, rfl, rfl, nofun⟩ rfl rfl ?_
            iterate 4 refine SxL.off ⟨_, _, _, rfl, rfl, rfl, nofun⟩ rfl rfl ?_
            refine SxL.val trivial rfl rfl (fun ρ w E H => ex_pick E rfl (t := false) rfl rfl) ?_
            refine SxL.val trivial rfl rfl (fun ρ w E H => ex_move E rfl rfl) ?_
            iterate 5 refine SxL.off ⟨_, _, _, rfl, rfl, rfl, nofun⟩ rfl rfl ?_
            refine SxL.val trivial rfl rfl (fun ρ w E H => ex_pick E rfl (t := false) rfl rfl) ?_
            refine SxL.val trivial rfl rfl (fun ρ w E H => ex_move E rfl rfl) ?_
            iterate 5 refine SxL.off ⟨_, _, _, rfl, rfl, rfl, nofun⟩ rfl rfl ?_
            refine SxL.val trivial rfl rfl (fun ρ w E H => ex_pick E rfl (t := false) rfl rfl) ?_
            refine SxL.val trivial rfl rfl (fun ρ w E H => ex_move E rfl rfl) ?_
            iterate 5 refine SxL.off ⟨_, _, _, rfl, rfl, rfl, nofun⟩ rfl rfl ?_
            refine SxL.val trivial rfl rfl (fun ρ w E H => ex_pick E rfl (t := false) rfl rfl) ?_
            refine SxL.val trivial rfl rfl (fun ρ w E H => ex_move E rfl rfl) ?_
            iterate 5 refine SxL.off ⟨_, _, _, rfl, rfl, rfl, nofun⟩ rfl rfl ?_
            refine SxL.val trivial rfl rfl (fun ρ w E H => ex_pick E rfl (t := false) rfl rfl) ?_
            refine SxL.val trivial rfl rfl (fun ρ w E H => ex_assign E rfl rfl) ?_
            refine SxL.nil (SxN.then_ (SxC.ret ?_))
            refine SxX.done (.bool false) (fun a w K H => res1 K rfl rfl) (fun w H => ?_)
            have hq : false = decide ((⟨mk, mn, mr, mb, ms, mo, mv, vl, il, ⟨ca, cb, ck, cs, ct, cu, cz⟩, mc, mt⟩ : Ms) = ⟨xk, xn, xr, xb, xs, xo, xv, wl, jl, ⟨da, db, dk, ds, dt, du, dz⟩, xc, xt⟩) := by clear H; grind [cmpB]
            exact ⟨by rw [hq], H.toBelow ⟨(fun g hg => by rw [List.mem_singleton.1 hg]; exact hg2), (fun g hg => by rw [List.mem_singleton.1 hg]; exact hg1), trivial⟩⟩
          · refine SxL.val (v := .pointer (some ⟨g1, 6, none⟩)) ⟨_, _, rfl, rfl, rfl⟩ rfl rfl (fun ρ w E H => ex_field E rfl fa_palaver_api_Msg_5 rfl rfl) ?_
            refine SxL.val ⟨_, _, rfl, rfl, rfl⟩ rfl rfl (fun ρ w E H => ex_load1 E (H.get (i := 1) rfl) rfl rfl Tryz.underlying9 rfl rfl) ?_
            refine SxL.val (v := .pointer (some ⟨g2, 6, none⟩)) ⟨_, _, rfl, rfl, rfl⟩ rfl rfl (fun ρ w E H => ex_field E rfl fa_palaver_api_Msg_5 rfl rfl) ?_
            refine SxL.val ⟨_, _, rfl, rfl, rfl⟩ rfl rfl (fun ρ w E H => ex_load1 E (H.get (i := 0) rfl) rfl rfl Tryz.underlying9 rfl rfl) ?_
            refine SxL.valB ⟨_, _, rfl, rfl, rfl⟩ rfl rfl (fun ρ w E H => ex_seql E rfl rfl rfl rfl) fun c43 hc43 => ?_
            refine SxL.val trivial rfl rfl (fun ρ w E H => ex_pick E rfl (t := true) rfl rfl) ?_
            refine SxL.val trivial rfl rfl (fun ρ w E H => ex_move E rfl rfl) ?_
            cases c43
            · refine SxL.off ⟨_, _, _, rfl, rfl, rfl, nofun⟩ rfl rfl ?_
              iterate 4 refine SxL.off ⟨_, _, _, rfl, rfl, rfl, nofun⟩ rfl rfl ?_
              refine SxL.val trivial rfl rfl (fun ρ w E H => ex_pick E rfl (t := false) rfl rfl) ?_
              refine SxL.val trivial rfl rfl (fun ρ w E H => ex_move E rfl rfl) ?_
              iterate 5 refine SxL.off ⟨_, _, _, rfl, rfl, rfl, nofun⟩ rfl rfl ?_
              refine SxL.val trivial rfl rfl (fun ρ w E H => ex_pick E rfl (t := false) rfl rfl) ?_
              refine SxL.val trivial rfl rfl (fun ρ w E H => ex_move E rfl rfl) ?_
              iterate 5 refine SxL.off ⟨_, _, _, rfl, rfl, rfl, nofun⟩ rfl rfl ?_
              refine SxL.val trivial rfl rfl (fun ρ w E H => ex_pick E rfl (t := false) rfl rfl) ?_
              refine SxL.val trivial rfl rfl (fun ρ w E H => ex_move E rfl rfl) ?_
              iterate 5 refine SxL.off ⟨_, _, _, rfl, rfl, rfl, nofun⟩ rfl rfl ?_
              refine SxL.val trivial rfl rfl (fun ρ w E H => ex_pick E rfl (t := false) rfl rfl) ?_
              refine SxL.val trivial rfl rfl (fun ρ w E H => ex_assign E rfl rfl) ?_
              refine SxL.nil (SxN.then_ (SxC.ret ?_))
              refine SxX.done (.bool false) (fun a w K H => res1 K rfl rfl) (fun w H => ?_)
              have hq : false = decide ((⟨mk, mn, mr, mb, ms, mo, mv, vl, il, ⟨ca, cb, ck, cs, ct, cu, cz⟩, mc, mt⟩ : Ms) = ⟨xk, xn, xr, xb, xs, xo, xv, wl, jl, ⟨da, db, dk, ds, dt, du, dz⟩, xc, xt⟩) := by clear H; grind [cmpB]
              exact ⟨by rw [hq], H.toBelow ⟨(fun g hg => by rw [List.mem_singleton.1 hg]; exact hg2), (fun g hg => by rw [List.mem_singleton.1 hg]; exact hg1), trivial⟩⟩
            · refine SxL.val (v := .pointer (some ⟨g1, 9, none⟩)) ⟨_, _, rfl, rfl, rfl⟩ rfl rfl (fun ρ w E H => ex_field E rfl fa_palaver_api_Msg_8 rfl rfl) ?_
              refine SxL.val ⟨_, _, rfl, rfl, rfl⟩ rfl rfl (fun ρ w E H => ex_load (part := [.int .u8 (ca : Int), .int .u32 (cb : Int), .int .u8 (ck : Int), .string ⟨cs.toArray⟩, .string ⟨ct.toArray⟩, .string ⟨cu.toArray⟩, .int .u8 (cz : Int)]) E (H.get (i := 1) rfl) rfl rfl Tryz.underlying29 rfl sz_palaver_api_Cmd rfl rfl) ?_
              refine SxL.val (v := .pointer (some ⟨g2, 9, none⟩)) ⟨_, _, rfl, rfl, rfl⟩ rfl rfl (fun ρ w E H => ex_field E rfl fa_palaver_api_Msg_8 rfl rfl) ?_
              refine SxL.val ⟨_, _, rfl, rfl, rfl⟩ rfl rfl (fun ρ w E H => ex_load (part := [.int .u8 (da : Int), .int .u32 (db : Int), .int .u8 (dk : Int), .string ⟨ds.toArray⟩, .string ⟨dt.toArray⟩, .string ⟨du.toArray⟩, .int .u8 (dz : Int)]) E (H.get (i := 0) rfl) rfl rfl Tryz.underlying29 rfl sz_palaver_api_Cmd rfl rfl) ?_
              refine SxL.valB ⟨_, _, rfl, rfl, rfl⟩ rfl rfl (fun ρ w E H => ex_aeql E rfl (by kernel_rfl) rfl rfl (fun w => eq_cm (⟨ca, cb, ck, cs, ct, cu, cz⟩ : Cmd.Cm) ⟨da, db, dk, ds, dt, du, dz⟩ w)) fun c50 hc50 => ?_
              refine SxL.val trivial rfl rfl (fun ρ w E H => ex_pick E rfl (t := true) rfl rfl) ?_
              refine SxL.val trivial rfl rfl (fun ρ w E H => ex_move E rfl rfl) ?_
              cases c50
              · refine SxL.off ⟨_, _, _, rfl, rfl, rfl, nofun⟩ rfl rfl ?_
                iterate 4 refine SxL.off ⟨_, _, _, rfl, rfl, rfl, nofun⟩ rfl rfl ?_
                refine SxL.val trivial rfl rfl (fun ρ w E H => ex_pick E rfl (t := false) rfl rfl) ?_
                refine SxL.val trivial rfl rfl (fun ρ w E H => ex_move E rfl rfl) ?_
                iterate 5 refine SxL.off ⟨_, _, _, rfl, rfl, rfl, nofun⟩ rfl rfl ?_
                refine SxL.val trivial rfl rfl (fun ρ w E H => ex_pick E rfl (t := false) rfl rfl) ?_
                refine SxL.val trivial rfl rfl (fun ρ w E H => ex_move E rfl rfl) ?_
                iterate 5 refine SxL.off ⟨_, _, _, rfl, rfl, rfl, nofun⟩ rfl rfl ?_
                refine SxL.val trivial rfl rfl (fun ρ w E H => ex_pick E rfl (t := false) rfl rfl) ?_
                refine SxL.val trivial rfl rfl (fun ρ w E H => ex_assign E rfl rfl) ?_
                refine SxL.nil (SxN.then_ (SxC.ret ?_))
                refine SxX.done (.bool false) (fun a w K H => res1 K rfl rfl) (fun w H => ?_)
                have hq : false = decide ((⟨mk, mn, mr, mb, ms, mo, mv, vl, il, ⟨ca, cb, ck, cs, ct, cu, cz⟩, mc, mt⟩ : Ms) = ⟨xk, xn, xr, xb, xs, xo, xv, wl, jl, ⟨da, db, dk, ds, dt, du, dz⟩, xc, xt⟩) := by clear H; grind [cmpB]
                exact ⟨by rw [hq], H.toBelow ⟨(fun g hg => by rw [List.mem_singleton.1 hg]; exact hg2), (fun g hg => by rw [List.mem_singleton.1 hg]; exact hg1), trivial⟩⟩
              · refine SxL.val (v := .pointer (some ⟨g1, 16, none⟩)) ⟨_, _, rfl, rfl, rfl⟩ rfl rfl (fun ρ w E H => ex_field E rfl fa_palaver_api_Msg_9 rfl rfl) ?_
                refine SxL.val ⟨_, _, rfl, rfl, rfl⟩ rfl rfl (fun ρ w E H => ex_load (part := [.int .u8 (mc : Int), .string ⟨mt.toArray⟩]) E (H.get (i := 1) rfl) rfl rfl Tryz.underlying31 rfl sz_palaver_api_Reply rfl rfl) ?_
                refine SxL.val (v := .pointer (some ⟨g2, 16, none⟩)) ⟨_, _, rfl, rfl, rfl⟩ rfl rfl (fun ρ w E H => ex_field E rfl fa_palaver_api_Msg_9 rfl rfl) ?_
                refine SxL.val ⟨_, _, rfl, rfl, rfl⟩ rfl rfl (fun ρ w E H => ex_load (part := [.int .u8 (xc : Int), .string ⟨xt.toArray⟩]) E (H.get (i := 0) rfl) rfl rfl Tryz.underlying31 rfl sz_palaver_api_Reply rfl rfl) ?_
                refine SxL.valB ⟨_, _, rfl, rfl, rfl⟩ rfl rfl (fun ρ w E H => ex_aeql E rfl (by kernel_rfl) rfl rfl (fun w => eq_ry mc xc mt xt w)) fun c57 hc57 => ?_
                refine SxL.val trivial rfl rfl (fun ρ w E H => ex_pick E rfl (t := true) rfl rfl) ?_
                refine SxL.val trivial rfl rfl (fun ρ w E H => ex_move E rfl rfl) ?_
                cases c57
                · refine SxL.off ⟨_, _, _, rfl, rfl, rfl, nofun⟩ rfl rfl ?_
                  iterate 4 refine SxL.off ⟨_, _, _, rfl, rfl, rfl, nofun⟩ rfl rfl ?_
                  refine SxL.val trivial rfl rfl (fun ρ w E H => ex_pick E rfl (t := false) rfl rfl) ?_
                  refine SxL.val trivial rfl rfl (fun ρ w E H => ex_move E rfl rfl) ?_
                  iterate 5 refine SxL.off ⟨_, _, _, rfl, rfl, rfl, nofun⟩ rfl rfl ?_
                  refine SxL.val trivial rfl rfl (fun ρ w E H => ex_pick E rfl (t := false) rfl rfl) ?_
                  refine SxL.val trivial rfl rfl (fun ρ w E H => ex_assign E rfl rfl) ?_
                  refine SxL.nil (SxN.then_ (SxC.ret ?_))
                  refine SxX.done (.bool false) (fun a w K H => res1 K rfl rfl) (fun w H => ?_)
                  have hq : false = decide ((⟨mk, mn, mr, mb, ms, mo, mv, vl, il, ⟨ca, cb, ck, cs, ct, cu, cz⟩, mc, mt⟩ : Ms) = ⟨xk, xn, xr, xb, xs, xo, xv, wl, jl, ⟨da, db, dk, ds, dt, du, dz⟩, xc, xt⟩) := by clear H; grind [cmpB]
                  exact ⟨by rw [hq], H.toBelow ⟨(fun g hg => by rw [List.mem_singleton.1 hg]; exact hg2), (fun g hg => by rw [List.mem_singleton.1 hg]; exact hg1), trivial⟩⟩
                · refine SxL.val (v := .pointer (some ⟨g1, 7, none⟩)) ⟨_, _, rfl, rfl, rfl⟩ rfl rfl (fun ρ w E H => ex_field E rfl fa_palaver_api_Msg_6 rfl rfl) ?_
                  refine SxL.val ⟨_, _, rfl, rfl, rfl⟩ rfl rfl (fun ρ w E H => ex_load1 E (H.get (i := 1) rfl) rfl rfl Tryz.underlying25 rfl rfl) ?_
                  refine SxL.val (v := .pointer (some ⟨g2, 7, none⟩)) ⟨_, _, rfl, rfl, rfl⟩ rfl rfl (fun ρ w E H => ex_field E rfl fa_palaver_api_Msg_6 rfl rfl) ?_
                  refine SxL.val ⟨_, _, rfl, rfl, rfl⟩ rfl rfl (fun ρ w E H => ex_load1 E (H.get (i := 0) rfl) rfl rfl Tryz.underlying25 rfl rfl) ?_
                  refine SxL.callBB (b := (decide (vl = wl))) ⟨_, _, rfl, rfl, rfl⟩ rfl rfl (fun ρ w E => ex_call E en_slices_Equal_palaver_api_Vote_palaver_api_Vote rfl rfl) (fun w H => equalV vl wl A C ka kc w (hv.below (H.toBelow ⟨(fun g hg => by rw [List.mem_singleton.1 hg]; exact hg2), (fun g hg => by rw [List.mem_singleton.1 hg]; exact hg1), trivial⟩)) (hv2.below (H.toBelow ⟨(fun g hg => by rw [List.mem_singleton.1 hg]; exact hg2), (fun g hg => by rw [List.mem_singleton.1 hg]; exact hg1), trivial⟩)) hl1) fun c64 hc64 => ?_
                  refine SxL.val trivial rfl rfl (fun ρ w E H => ex_pick E rfl (t := true) rfl rfl) ?_
                  refine SxL.val trivial rfl rfl (fun ρ w E H => ex_move E rfl rfl) ?_
                  cases c64
                  · refine SxL.off ⟨_, _, _, rfl, rfl, rfl, nofun⟩ rfl rfl ?_
                    iterate 4 refine SxL.off ⟨_, _, _, rfl, rfl, rfl, nofun⟩ rfl rfl ?_
                    refine SxL.val trivial rfl rfl (fun ρ w E H => ex_pick E rfl (t := false) rfl rfl) ?_
                    refine SxL.val trivial rfl rfl (fun ρ w E H => ex_assign E rfl rfl) ?_
                    refine SxL.nil (SxN.then_ (SxC.ret ?_))
                    refine SxX.done (.bool false) (fun a w K H => res1 K rfl rfl) (fun w H => ?_)
                    have hq : false = decide ((⟨mk, mn, mr, mb, ms, mo, mv, vl, il, ⟨ca, cb, ck, cs, ct, cu, cz⟩, mc, mt⟩ : Ms) = ⟨xk, xn, xr, xb, xs, xo, xv, wl, jl, ⟨da, db, dk, ds, dt, du, dz⟩, xc, xt⟩) := by clear H; grind [cmpB]
                    exact ⟨by rw [hq], H.toBelow ⟨(fun g hg => by rw [List.mem_singleton.1 hg]; exact hg2), (fun g hg => by rw [List.mem_singleton.1 hg]; exact hg1), trivial⟩⟩
                  · refine SxL.val (v := .pointer (some ⟨g1, 8, none⟩)) ⟨_, _, rfl, rfl, rfl⟩ rfl rfl (fun ρ w E H => ex_field E rfl fa_palaver_api_Msg_7 rfl rfl) ?_
                    refine SxL.val ⟨_, _, rfl, rfl, rfl⟩ rfl rfl (fun ρ w E H => ex_load1 E (H.get (i := 1) rfl) rfl rfl Tryz.underlying26 rfl rfl) ?_
                    refine SxL.val (v := .pointer (some ⟨g2, 8, none⟩)) ⟨_, _, rfl, rfl, rfl⟩ rfl rfl (fun ρ w E H => ex_field E rfl fa_palaver_api_Msg_7 rfl rfl) ?_
                    refine SxL.val ⟨_, _, rfl, rfl, rfl⟩ rfl rfl (fun ρ w E H => ex_load1 E (H.get (i := 0) rfl) rfl rfl Tryz.underlying26 rfl rfl) ?_
                    refine SxL.callBB (b := (decide (il = jl))) ⟨_, _, rfl, rfl, rfl⟩ rfl rfl (fun ρ w E => ex_call E en_slices_Equal_palaver_api_Item_palaver_api_Item rfl rfl) (fun w H => equalI il jl B D kb kd w (hi.below (H.toBelow ⟨(fun g hg => by rw [List.mem_singleton.1 hg]; exact hg2), (fun g hg => by rw [List.mem_singleton.1 hg]; exact hg1), trivial⟩)) (hi2.below (H.toBelow ⟨(fun g hg => by rw [List.mem_singleton.1 hg]; exact hg2), (fun g hg => by rw [List.mem_singleton.1 hg]; exact hg1), trivial⟩)) hl2) fun c71 hc71 => ?_
                    refine SxL.val trivial rfl rfl (fun ρ w E H => ex_pick E rfl (t := true) rfl rfl) ?_
                    refine SxL.val trivial rfl rfl (fun ρ w E H => ex_assign E rfl rfl) ?_
                    refine SxL.nil (SxN.then_ (SxC.ret ?_))
                    refine SxX.done (.bool c71) (fun a w K H => res1 K rfl rfl) (fun w H => ?_)
                    have hq : c71 = decide ((⟨mk, mn, mr, mb, ms, mo, mv, vl, il, ⟨ca, cb, ck, cs, ct, cu, cz⟩, mc, mt⟩ : Ms) = ⟨xk, xn, xr, xb, xs, xo, xv, wl, jl, ⟨da, db, dk, ds, dt, du, dz⟩, xc, xt⟩) := by
                      clear H
                      have e1 : mk = xk ∧ mb = xb ∧ ms = xs ∧ mo = xo ∧ mn = xn ∧ mr = xr ∧ mv = xv ∧ mc = xc ∧ mt = xt ∧ vl = wl := by clear hc50 hc71; grind [cmpB]
                      obtain ⟨rfl, rfl, rfl, rfl, rfl, rfl, rfl, rfl, rfl, rfl⟩ := e1
                      have e2 := of_decide_eq_true hc50
                      injection e2 with f1 f2 f3 f4 f5 f6 f7
                      subst f1 f2 f3 f4 f5 f6 f7
                      rw [← hc71]
                      simp
                    exact ⟨by rw [hq], H.toBelow ⟨(fun g hg => by rw [List.mem_singleton.1 hg]; exact hg2), (fun g hg => by rw [List.mem_singleton.1 hg]; exact hg1), trivial⟩⟩

theorem same_any (m x : Ms) (A B C D : Option Addr) (ka kb kc kd : Nat) (w : World) (h1 : MsRows w m A B) (h2 : MsRows w x C D) (hl1 : m.votes.length ≤ 1000000) (hl2 : m.items.length ≤ 1000000) :
    Calls Tryz.prog 15 #[msV m A ka B kb, msV x C kc D kd] w fun e w' => e = .returned (.bool (decide (m = x))) ∧ Below w.heap.size w w' := by
  obtain ⟨mk, mn, mr, mb, ms, mo, mv, vl, il, ⟨ca, cb, ck, cs, ct, cu, cz⟩, mc, mt⟩ := m
  obtain ⟨xk, xn, xr, xb, xs, xo, xv, wl, jl, ⟨da, db, dk, ds, dt, du, dz⟩, xc, xt⟩ := x
  exact same_lit _ _ _ _ _ _ _ _ _ _ _ _ _ _ _ _ _ _ _ _ _ _ _ _ _ _ _ _ _ _ _ _ _ _ _ _ _ _ _ _ _ _ _ _ w h1.hv h1.hi h2.hv h2.hi hl1 hl2
end Go.Proofs.YteiaiilfekojfaaGreat.Msg
end
section
set_option linter.unusedVariables false
set_option linter.unusedSimpArgs false
namespace Go.Proofs.YteiaiilfekojfaaGreat.Sx
open Go.RowKit DrawInv Wire
section
variable {P : Program} {ops : Array Oper} {Q Q' : Exit → Act → World → Prop} {n : Nat} {vs : Vs} {w0 : World} {L : List Ft} {o : Oper} {rest : List Oper}
theorem ex_convS {ρ : Operand → Value} {w : World} {src dst e : TypeId} {x : Operand} {v : Value} {base e' m : Nat} {xs : List Value} {l : List UInt8} (E : Env vs ρ) (ho : o.op = .convert src dst x) (hs : P.underlying src = some (.slice e)) (he : P.underlying e = some (.int .u8)) (hd : P.underlying dst = some .string)
    (hx : opv vs x = some v) (hown : w.ownsRow base e' 1 v m xs) (hxs : xs = bv l) : (execOp ρ o).run P w = .ok (.value (.string ⟨l.toArray⟩)) w := by
  subst hxs
  obtain ⟨A, c, rfl, hr⟩ := own_slice1 hown
  unfold execOp; rw [ho]
  simp only [E.ev hx, Sem.run_bind]
  rw [conv_str hs he hd c hr]
  rfl
/-- A call that hands back a row of one's own among other things. -/
theorem callOwnV {f : Nat} {args : Array Value} {e : TypeId} {sz m : Nat} {xs : List Value} (vf : Value → Value) (hc : ∀ w, Hp w0 L w → Calls P f args w fun E w' => ∃ v', E = .returned (vf v') ∧ w'.ownsRow w.heap.size e sz v' m xs ∧ Below w.heap.size w w') :
    ∀ w, Hp w0 L w → Calls P f args w fun E w' => ∃ s : Value, E = .returned (vf s) ∧ OwnIn w0 [] s ∧ Hp w0 (rowX [] w0.heap.size e sz s m xs :: L) w' := fun w H => (hc w H).mono fun E w' ⟨v', he, hown, hb⟩ =>
  ⟨v', he, fun g hg => .inr (Nat.le_trans H.os.size (own_lt hown g hg).1), H.add hb _ (rowX_loc _ _ _ _ _ _ _) (fun g hg => ⟨(own_lt hown g (by simpa [rowX] using hg)).2, (own_lt hown g (by simpa [rowX] using hg)).1⟩) (own_base hown H.os.size)⟩
theorem own_new1 {w : World} {base g e : Nat} {v : Value} (h : (cell g e [v]).φ w) (hg : base ≤ g) : w.ownsRow base e 1 (.slice (some ⟨g, 0, none⟩) 1 1) 1 [v] :=
  ⟨by simp, .inr ⟨g, 1, #[v], rfl, hg, h, Nat.le_refl _, by decide, by simp, by simp⟩⟩
end
end Go.Proofs.YteiaiilfekojfaaGreat.Sx
namespace Go.Proofs.YteiaiilfekojfaaGreat.Msg
open Go.RowKit Wire Sx DrawInv
structure PS where
  A : Option Addr
  c : Nat
  gb : Nat
  q : List (Pt × Nat)
theorem call_parts {w0 : World} {L : List Ft} (k : Nat) : ∀ w, Hp w0 L w → Calls Tryz.prog 43 #[.int .u8 (k : Int)] w fun E w' => ∃ s : PS, E = .returned (.slice s.A s.q.length s.c) ∧ ((s.q.map (·.1) = partsOf k ∧ (s.q ≠ [] → s.A = some ⟨s.gb, 0, none⟩)) ∧ ∀ g ∈ (partsF s.gb s.q).fp, w0.heap.size ≤ g) ∧ Hp w0 (partsF s.gb s.q :: L) w' :=
  callNew (fun s : PS => .slice s.A s.q.length s.c) (fun s => s.q.map (·.1) = partsOf k ∧ (s.q ≠ [] → s.A = some ⟨s.gb, 0, none⟩)) (fun s => partsF s.gb s.q) (fun s => partsF_loc _ _) fun w H => (parts_any k w).mono fun E w' ⟨A, c, gb, q, h1, h2, h3, h4, h5, h6⟩ => ⟨⟨A, c, gb, q⟩, h1, ⟨h2, h3⟩, h4, h5, h6⟩
theorem own_read {α : Type} {w : World} {base e sz n c : Nat} {A : Option Addr} {cells : α → List Value} {l : List α} (hc : ∀ x, (cells x).length = sz) (hs : 0 < sz) (h : w.ownsRow base e sz (.slice A n c) l.length (l.flatMap cells)) : Rows w A sz cells l := by
  obtain ⟨A', c', e', _, hr⟩ := own_rows hc hs h
  injection e' with e1 e2 e3
  subst e1
  exact hr
theorem made_rows {w : World} {base g n n' k k' : Nat} {a : Ms} {A B : Option Addr} (h : (madeF base g a (.slice A n k) (.slice B n' k')).φ w) : MsRows w a A B :=
  ⟨own_read voL_len (by decide) h.2.1, own_read imL_len (by decide) h.2.2⟩
/-- The inside as far as the part k. -/
def insB (m : Ms) (k : Nat) : List UInt8 := UInt8.ofNat m.kind :: ((partsOf m.kind).take k).flatMap (·.put m)
theorem insB_succ {m : Ms} {k : Nat} {p : Pt} (h : (partsOf m.kind)[k]? = some p) : insB m (k + 1) = insB m k ++ p.put m := by
  unfold insB; rw [take_snoc h, List.flatMap_append]; simp
theorem insB_end {m : Ms} {k : Nat} (h : (partsOf m.kind).length ≤ k) : insB m k = insideB m := by unfold insB insideB; rw [List.take_of_length_le h]
theorem oneB_len (c : Cmd.Cm) (hc : c.Fits) (h1 : c.key.length ≤ 1000) (h2 : c.old.length ≤ 1000) (h3 : c.new.length ≤ 1000) : (Cmd.oneB c).length ≤ 10000 := by
  unfold Cmd.oneB
  have a := (numB_length c.seq (by have := hc.h2; omega)).1
  have b := strB_len c.key (by omega)
  have d := strB_len c.old (by omega)
  have e := strB_len c.new (by omega)
  simp only [List.length_cons, List.length_append, List.length_nil]
  omega
theorem put_len (p : Pt) (m : Ms) (hf : m.Fits) (hs : m.Small) : (p.put m).length ≤ 410000 := by
  have s1 := hs.h1
  have s2 := hs.h2
  have s3 := hs.h3
  have s9 := hs.h9
  have s10 := hs.h10
  have s11 := hs.h11
  cases p with
  | cmd => have := oneB_len m.cmd hf.h9 hs.h6 hs.h7 hs.h8; show (Cmd.oneB m.cmd).length ≤ _; omega
  | name => have := (numB_length m.cmd.seq (by have := hf.h9.h2; omega)).1; show (_ :: numB m.cmd.seq).length ≤ _; rw [List.length_cons]; omega
  | reply => have := strB_len m.text (by omega); show (_ :: strB m.text).length ≤ _; rw [List.length_cons]; omega
  | node => show ([_] : List UInt8).length ≤ _; simp
  | turn => have := bal_len m.bn m.br hf.h2; show (Bal.balB _).length ≤ _; omega
  | floor => have := (numB_length m.base hf.h4).1; show (numB m.base).length ≤ _; omega
  | slot l => have := (numB_length m.slot hf.h5).1; show (numB m.slot).length ≤ _; omega
  | value => have := strB_len m.value (by omega); show (strB m.value).length ≤ _; omega
  | votes => have := (numB_length m.votes.length (by omega)).1; show (numB _ ++ _).length ≤ _; rw [List.length_append]; omega
  | items => have := (numB_length m.items.length (by omega)).1; show (numB _ ++ _).length ≤ _; rw [List.length_append]; omega
theorem parts_none (k : Nat) (h : 14 ≤ k) : partsOf k = [] := by
  unfold partsOf
  repeat rw [if_neg (by omega)]
theorem parts_two (k : Nat) : ((partsOf k).filter (fun p => decide (p = .votes ∨ p = .items))).length ≤ 1 ∧ (partsOf k).length ≤ 4 := by
  by_cases h : k < 14
  · have hd : ∀ k : Nat, k < 14 → ((partsOf k).filter (fun p => decide (p = .votes ∨ p = .items))).length ≤ 1 ∧ (partsOf k).length ≤ 4 := by decide
    exact hd k h
  · rw [parts_none k (by omega)]
    decide
theorem put_len2 (p : Pt) (m : Ms) (hf : m.Fits) (hs : m.Small) (hp : ¬ (p = .votes ∨ p = .items)) : (p.put m).length ≤ 110000 := by
  have s1 := hs.h1
  have s9 := hs.h9
  cases p with
  | cmd => have := oneB_len m.cmd hf.h9 hs.h6 hs.h7 hs.h8; show (Cmd.oneB m.cmd).length ≤ _; omega
  | name => have := (numB_length m.cmd.seq (by have := hf.h9.h2; omega)).1; show (_ :: numB m.cmd.seq).length ≤ _; rw [List.length_cons]; omega
  | reply => have := strB_len m.text (by omega); show (_ :: strB m.text).length ≤ _; rw [List.length_cons]; omega
  | node => show ([_] : List UInt8).length ≤ _; simp
  | turn => have := bal_len m.bn m.br hf.h2; show (Bal.balB _).length ≤ _; omega
  | floor => have := (numB_length m.base hf.h4).1; show (numB m.base).length ≤ _; omega
  | slot l => have := (numB_length m.slot hf.h5).1; show (numB m.slot).length ≤ _; omega
  | value => have := strB_len m.value (by omega); show (strB m.value).length ≤ _; omega
  | votes => exact absurd (.inl rfl) hp
  | items => exact absurd (.inr rfl) hp
theorem sum_len (m : Ms) (hf : m.Fits) (hs : m.Small) : ∀ l : List Pt, (l.flatMap (·.put m)).length ≤ 410000 * (l.filter (fun p => decide (p = .votes ∨ p = .items))).length + 110000 * l.length
  | [] => by simp
  | p :: l => by
    have ih := sum_len m hf hs l
    rw [List.flatMap_cons, List.length_append, List.length_cons, List.filter_cons]
    by_cases hp : p = .votes ∨ p = .items
    · have := put_len p m hf hs
      rw [if_pos (by simpa using hp), List.length_cons]
      omega
    · have := put_len2 p m hf hs hp
      rw [if_neg (by simpa using hp)]
      omega
theorem insB_len (m : Ms) (hf : m.Fits) (hs : m.Small) (k : Nat) : (insB m k).length ≤ 1000000 := by
  have h1 := sum_len m hf hs (partsOf m.kind)
  have h2 := parts_two m.kind
  have h3 := flat_take (fun p : Pt => p.put m) (partsOf m.kind) k
  unfold insB
  rw [List.length_cons]
  have : ((partsOf m.kind).take k).flatMap (fun p => p.put m) = ((partsOf m.kind).take k).flatMap (·.put m) := rfl
  omega
/-- What frame.Put answers. -/
def fpB (s : List UInt8) : List UInt8 × Nat := if s.length ≤ 65536 then (Frame.frameB s, 0) else ([], 6)
theorem fpB_bad (s : List UInt8) (h : (fpB s).2 ≠ 0) : fpB s = ([], (fpB s).2) := by
  unfold fpB at *
  split
  · rename_i h1; rw [if_pos h1] at h; exact absurd rfl h
  · rfl
theorem fput_any (s : List UInt8) (h1 : 0 < s.length) (h2 : s.length ≤ 1000000) (w : World) : Calls Tryz.prog 44 #[.slice none 0 0, .string ⟨s.toArray⟩] w fun E w' => ∃ v', E = .returned (.tuple #[v', .int .i64 ((fpB s).2 : Int)]) ∧ w'.ownsRow w.heap.size 5 1 v' (fpB s).1.length (bv (fpB s).1) ∧ Below w.heap.size w w' := by
  have hr : Reads w w.heap.size 1 none 0 (bv []) := ⟨rfl, fun h => absurd h (by decide)⟩
  unfold fpB
  by_cases h : s.length ≤ 65536
  · rw [if_pos h]
    exact Frame.fput_ok none 0 [] s (by simp) h1 h w hr
  · rw [if_neg h]
    exact Frame.fput_bad none 0 [] s (by simp) (.inr (by omega)) w hr
theorem putM_is (m : Ms) (h : checkB m = true) : putM m = fpB (insideB m) := by unfold putM fpB; rw [if_pos h]
end Go.Proofs.YteiaiilfekojfaaGreat.Msg
end
section
set_option linter.unusedVariables false
set_option linter.unusedSimpArgs false
namespace Go.Proofs.YteiaiilfekojfaaGreat.Msg
open Go.RowKit Sx Wire DrawInv
set_option maxRecDepth 100000 in
set_option maxHeartbeats 4000000 in
theorem check_lit (mk mn mr mb ms mo ca cb ck cz mc : Nat) (mv cs ct cu mt : List UInt8) (vl : List Vo) (il : List Im) (A B : Option Addr) (ka kb : Nat) (w : World) (hf : Ms.Fits ⟨mk, mn, mr, mb, ms, mo, mv, vl, il, ⟨ca, cb, ck, cs, ct, cu, cz⟩, mc, mt⟩) (hs : Ms.Small ⟨mk, mn, mr, mb, ms, mo, mv, vl, il, ⟨ca, cb, ck, cs, ct, cu, cz⟩, mc, mt⟩) (hr : MsRows w ⟨mk, mn, mr, mb, ms, mo, mv, vl, il, ⟨ca, cb, ck, cs, ct, cu, cz⟩, mc, mt⟩ A B) : Calls Tryz.prog 12 #[.agg #[.int .u8 (mk : Int), .int .u64 (mn : Int), .int .u8 (mr : Int), .int .u64 (mb : Int), .int .u64 (ms : Int), .int .u8 (mo : Int), .string ⟨mv.toArray⟩, .slice A vl.length ka, .slice B il.length kb, .int .u8 (ca : Int), .int .u32 (cb : Int), .int .u8 (ck : Int), .string ⟨cs.toArray⟩, .string ⟨ct.toArray⟩, .string ⟨cu.toArray⟩, .int .u8 (cz : Int), .int .u8 (mc : Int), .string ⟨mt.toArray⟩]] w fun e w' => e = .returned (.int .i64 (if checkB ⟨mk, mn, mr, mb, ms, mo, mv, vl, il, ⟨ca, cb, ck, cs, ct, cu, cz⟩, mc, mt⟩ then 0 else 2)) ∧ Below w.heap.size w w' := by
  refine sx_enter (n := 36) _ Tryz.func12 rfl rfl rfl (Hp.start w) ?_
  refine SxC.seq (SxC.region ?_)
  refine SxL.new (cs := [.int .u8 (mk : Int), .int .u64 (mn : Int), .int .u8 (mr : Int), .int .u64 (mb : Int), .int .u64 (ms : Int), .int .u8 (mo : Int), .string ⟨mv.toArray⟩, .slice A vl.length ka, .slice B il.length kb, .int .u8 (ca : Int), .int .u32 (cb : Int), .int .u8 (ck : Int), .string ⟨cs.toArray⟩, .string ⟨ct.toArray⟩, .string ⟨cu.toArray⟩, .int .u8 (cz : Int), .int .u8 (mc : Int), .string ⟨mt.toArray⟩]) trivial rfl rfl (fun ρ w E H => ex_box E rfl rfl rfl) fun g1 hg1 => ?_
  refine SxL.val trivial rfl rfl (fun ρ w E H => ex_assign E rfl rfl) ?_
  refine SxL.nil (SxN.then_ (SxC.seq (SxC.region ?_)))
  refine SxL.val (v := .pointer (some ⟨g1, 0, none⟩)) trivial rfl rfl (fun ρ w E H => ex_field E rfl fa_palaver_api_Msg_0 rfl rfl) ?_
  refine SxL.val trivial rfl rfl (fun ρ w E H => ex_load1 E (H.get (i := 0) rfl) rfl rfl Tryz.underlying5 rfl rfl) ?_
  refine SxL.call (σ := PS) (fun s => .slice s.A (List.length s.q) s.c) (fun s => _) (fun s => _) trivial rfl rfl (fun ρ w E => ex_call E en_palaver_msg_parts rfl rfl) (call_parts mk) fun s hs_ => ?_
  obtain ⟨pA, pc, gb, q⟩ := s
  obtain ⟨⟨hq, hpA⟩, hpf⟩ := hs_
  dsimp only at hq hpA hpf
  refine SxL.val trivial rfl rfl (fun ρ w E H => ex_assign E rfl rfl) ?_
  refine SxL.nil (SxN.then_ (SxC.seq (SxC.seq (SxC.region ?_))))
  refine SxL.val trivial rfl rfl (fun ρ w E H => ex_move E rfl rfl) ?_
  refine SxL.val (v := .int .i64 (q.length : Int)) trivial rfl rfl (fun ρ w E H => ex_lenS E rfl Tryz.underlying95 rfl) ?_
  refine SxL.valB trivial rfl rfl (fun ρ w E H => ex_cmp E rfl rfl rfl rfl rfl) fun c12 hc12 => ?_
  refine SxL.nil (SxN.then_ ?_)
  cases c12
  · refine SxC.condF rfl (SxC.skip (SxN.then_ (SxC.seq (SxC.region ?_))))
    refine SxL.val (v := .pointer (some ⟨g1, 0, none⟩)) trivial rfl rfl (fun ρ w E H => ex_field E rfl fa_palaver_api_Msg_0 rfl rfl) ?_
    refine SxL.val trivial rfl rfl (fun ρ w E H => ex_load1 E (H.get (i := 1) rfl) rfl rfl Tryz.underlying5 rfl rfl) ?_
    refine SxL.val trivial rfl rfl (fun ρ w E H => ex_build (cs := [.int .u8 (mk : Int), .int .u64 0, .int .u8 0, .int .u64 0, .int .u64 0, .int .u8 0, .string ⟨[].toArray⟩, .slice none 0 0, .slice none 0 0, .int .u8 0, .int .u32 0, .int .u8 0, .string ⟨[].toArray⟩, .string ⟨[].toArray⟩, .string ⟨[].toArray⟩, .int .u8 0, .int .u8 0, .string ⟨[].toArray⟩]) E rfl rfl (by kernel_rfl)) ?_
    refine SxL.new (cs := [.int .u8 0, .int .u64 0, .int .u8 0, .int .u64 0, .int .u64 0, .int .u8 0, .string ⟨[].toArray⟩, .slice none 0 0, .slice none 0 0, .int .u8 0, .int .u32 0, .int .u8 0, .string ⟨[].toArray⟩, .string ⟨[].toArray⟩, .string ⟨[].toArray⟩, .int .u8 0, .int .u8 0, .string ⟨[].toArray⟩]) trivial rfl rfl (fun ρ w E H => ex_alloc rfl zr_palaver_api_Msg rfl) fun g2 hg2 => ?_
    refine SxL.store (i := 0) trivial rfl rfl rfl rfl rfl sz_palaver_api_Msg rfl rfl rfl ?_
    refine SxL.nil (SxN.then_ (SxC.seq (SxC.seq (SxC.region ?_))))
    refine SxL.val trivial rfl rfl (fun ρ w E H => ex_move E rfl rfl) ?_
    refine SxL.val (v := .int .i64 (q.length : Int)) trivial rfl rfl (fun ρ w E H => ex_lenS E rfl Tryz.underlying95 rfl) ?_
    refine SxL.val trivial rfl rfl (fun ρ w E H => ex_move E rfl rfl) ?_
    refine SxL.nil (SxN.then_ (SxC.block ?_))
    refine SxC.hp (fun W H => H.re (i := 0) rfl (madeF w.heap.size g2 (ms0 mk) (.slice none 0 0) (.slice none 0 0)) (madeF_loc _ _ _ _ _) rfl (fun h => made_new (k := mk) h)) ?_
    refine SxC.loop4 (fun (k : Nat) (a : Ms) (V : Value) (I : Value) => [(1, .pointer (some ⟨g1, 0, none⟩)), (2, .int .i64 0), (3, .slice pA q.length pc), (4, .pointer (some ⟨g2, 0, none⟩)), (16, .slice pA q.length pc), (17, .int .i64 (q.length : Int)), (18, .int .i64 (k : Int))]) (fun (k : Nat) (a : Ms) (V : Value) (I : Value) => [madeF w.heap.size g2 a V I, partsF gb q, cell g1 33 [.int .u8 (mk : Int), .int .u64 (mn : Int), .int .u8 (mr : Int), .int .u64 (mb : Int), .int .u64 (ms : Int), .int .u8 (mo : Int), .string ⟨mv.toArray⟩, .slice A vl.length ka, .slice B il.length kb, .int .u8 (ca : Int), .int .u32 (cb : Int), .int .u8 (ck : Int), .string ⟨cs.toArray⟩, .string ⟨ct.toArray⟩, .string ⟨cu.toArray⟩, .int .u8 (cz : Int), .int .u8 (mc : Int), .string ⟨mt.toArray⟩]]) (fun (gk : Nat) (k : Nat) (a : Ms) (V : Value) (I : Value) => k + gk = q.length ∧ a = moved ((partsOf mk).take k) ⟨mk, mn, mr, mb, ms, mo, mv, vl, il, ⟨ca, cb, ck, cs, ct, cu, cz⟩, mc, mt⟩ ∧ ((partsOf mk).take k).all (fun p => p.may ⟨mk, mn, mr, mb, ms, mo, mv, vl, il, ⟨ca, cb, ck, cs, ct, cu, cz⟩, mc, mt⟩) = true ∧ OwnIn w [] V ∧ OwnIn w [] I) q.length 0 (ms0 mk) (.slice none 0 0) (.slice none 0 0) ⟨by omega, rfl, rfl, own_none w, own_none w⟩ ⟨rfl, rfl, rfl, rfl, rfl, rfl, rfl, trivial⟩ [0, 1, 2] rfl (by decide) ⟨.inl rfl, .inl rfl, .inl rfl, trivial⟩ fun gk k a V I hF => ?_
    obtain ⟨hkg, ha, hall, hV, hI⟩ := hF
    refine SxC.seq (SxC.region ?_)
    refine SxL.valB trivial rfl rfl (fun ρ w E H => ex_cmp E rfl rfl rfl rfl rfl) fun c19 hc19 => ?_
    refine SxL.nil (SxN.then_ (SxC.seq ?_))
    cases c19
    · refine SxC.condF rfl (SxC.exit (SxX.thenE (SxX.thenE (SxX.blockE (SxN.then_ (SxC.seq (SxC.seq ?_)))))))
      refine SxC.with (fun W H => own_is_slice (H.get (i := 0) rfl : (madeF _ _ _ _ _).φ W).2.1) ?_
      rintro ⟨A2, k2, rfl⟩
      refine SxC.with (fun W H => own_is_slice (H.get (i := 0) rfl : (madeF _ _ _ _ _).φ W).2.2) ?_
      rintro ⟨B2, l2, rfl⟩
      refine SxC.region ?_
      refine SxL.val trivial rfl rfl (fun ρ w E H => ex_load (part := [.int .u8 (mk : Int), .int .u64 (mn : Int), .int .u8 (mr : Int), .int .u64 (mb : Int), .int .u64 (ms : Int), .int .u8 (mo : Int), .string ⟨mv.toArray⟩, .slice A vl.length ka, .slice B il.length kb, .int .u8 (ca : Int), .int .u32 (cb : Int), .int .u8 (ck : Int), .string ⟨cs.toArray⟩, .string ⟨ct.toArray⟩, .string ⟨cu.toArray⟩, .int .u8 (cz : Int), .int .u8 (mc : Int), .string ⟨mt.toArray⟩]) E (H.get (i := 2) rfl) rfl rfl Tryz.underlying33 rfl sz_palaver_api_Msg rfl rfl) ?_
      refine SxL.val trivial rfl rfl (fun ρ w E H => ex_load (cs := msL a (.slice A2 a.votes.length k2) (.slice B2 a.items.length l2)) (part := msL a (.slice A2 a.votes.length k2) (.slice B2 a.items.length l2)) E ((H.get (i := 0) rfl : (madeF _ _ _ _ _).φ w).1) rfl rfl Tryz.underlying33 rfl sz_palaver_api_Msg rfl rfl) ?_
      refine SxL.callBB (b := (decide (⟨mk, mn, mr, mb, ms, mo, mv, vl, il, ⟨ca, cb, ck, cs, ct, cu, cz⟩, mc, mt⟩ = a))) trivial rfl rfl (fun ρ w E => ex_call E en_palaver_msg_Same rfl rfl) (fun w H => same_any ⟨mk, mn, mr, mb, ms, mo, mv, vl, il, ⟨ca, cb, ck, cs, ct, cu, cz⟩, mc, mt⟩ a A B A2 B2 ka kb k2 l2 w (hr.below (H.toBelow ⟨(made_fresh hg2 hV hI), hpf, (fun g hg => by rw [List.mem_singleton.1 hg]; exact hg1), trivial⟩)) (made_rows (H.get (i := 0) rfl)) (Nat.le_trans hs.h2 (by decide)) (Nat.le_trans hs.h3 (by decide))) fun c34 hc34 => ?_
      cases c34
      · refine SxL.val (v := .bool true) trivial rfl rfl (fun ρ w E H => ex_not (t := false) E rfl rfl) ?_
        refine SxL.nil (SxN.then_ (SxC.condT rfl (SxC.seq (SxC.region ?_))))
        refine SxL.val trivial rfl rfl (fun ρ w E H => ex_assign E rfl rfl) ?_
        refine SxL.nil (SxN.then_ (SxC.ret (SxX.thenR ?_)))
        refine SxX.done (.int .i64 2) (fun a w K H => res1 K rfl rfl) (fun w H => ?_)
        have hq2 : (2 : Int) = (if checkB ⟨mk, mn, mr, mb, ms, mo, mv, vl, il, ⟨ca, cb, ck, cs, ct, cu, cz⟩, mc, mt⟩ then 0 else 2) := by
          clear H
          have hle : q.length ≤ k := by have h := hc19; simp [cmpB] at h; omega
          have hl2 : (partsOf mk).length ≤ k := by rw [← hq, List.length_map]; exact hle
          rw [List.take_of_length_le hl2] at ha hall
          have hne : (partsOf mk).isEmpty = false := by rw [← hq]; cases q with | nil => simp [cmpB] at hc12 | cons x l => rfl
          have hck : checkB ⟨mk, mn, mr, mb, ms, mo, mv, vl, il, ⟨ca, cb, ck, cs, ct, cu, cz⟩, mc, mt⟩ = decide (⟨mk, mn, mr, mb, ms, mo, mv, vl, il, ⟨ca, cb, ck, cs, ct, cu, cz⟩, mc, mt⟩ = a) := by rw [ha]; show (!(partsOf mk).isEmpty && ((partsOf mk).all (fun p => p.may ⟨mk, mn, mr, mb, ms, mo, mv, vl, il, ⟨ca, cb, ck, cs, ct, cu, cz⟩, mc, mt⟩) && decide (⟨mk, mn, mr, mb, ms, mo, mv, vl, il, ⟨ca, cb, ck, cs, ct, cu, cz⟩, mc, mt⟩ = moved (partsOf mk) ⟨mk, mn, mr, mb, ms, mo, mv, vl, il, ⟨ca, cb, ck, cs, ct, cu, cz⟩, mc, mt⟩))) = _; rw [hne, hall]; rfl
          rw [hck, hc34]; rfl
        exact ⟨congrArg (fun z => Ending.returned (.int .i64 z)) hq2, H.toBelow ⟨(made_fresh hg2 hV hI), hpf, (fun g hg => by rw [List.mem_singleton.1 hg]; exact hg1), trivial⟩⟩
      · refine SxL.val (v := .bool false) trivial rfl rfl (fun ρ w E H => ex_not (t := true) E rfl rfl) ?_
        refine SxL.nil (SxN.then_ (SxC.condF rfl (SxC.skip (SxN.then_ (SxC.seq (SxC.region ?_))))))
        refine SxL.val trivial rfl rfl (fun ρ w E H => ex_assign E rfl rfl) ?_
        refine SxL.nil (SxN.then_ (SxC.ret ?_))
        refine SxX.done (.int .i64 0) (fun a w K H => res1 K rfl rfl) (fun w H => ?_)
        have hq2 : (0 : Int) = (if checkB ⟨mk, mn, mr, mb, ms, mo, mv, vl, il, ⟨ca, cb, ck, cs, ct, cu, cz⟩, mc, mt⟩ then 0 else 2) := by
          clear H
          have hle : q.length ≤ k := by have h := hc19; simp [cmpB] at h; omega
          have hl2 : (partsOf mk).length ≤ k := by rw [← hq, List.length_map]; exact hle
          rw [List.take_of_length_le hl2] at ha hall
          have hne : (partsOf mk).isEmpty = false := by rw [← hq]; cases q with | nil => simp [cmpB] at hc12 | cons x l => rfl
          have hck : checkB ⟨mk, mn, mr, mb, ms, mo, mv, vl, il, ⟨ca, cb, ck, cs, ct, cu, cz⟩, mc, mt⟩ = decide (⟨mk, mn, mr, mb, ms, mo, mv, vl, il, ⟨ca, cb, ck, cs, ct, cu, cz⟩, mc, mt⟩ = a) := by rw [ha]; show (!(partsOf mk).isEmpty && ((partsOf mk).all (fun p => p.may ⟨mk, mn, mr, mb, ms, mo, mv, vl, il, ⟨ca, cb, ck, cs, ct, cu, cz⟩, mc, mt⟩) && decide (⟨mk, mn, mr, mb, ms, mo, mv, vl, il, ⟨ca, cb, ck, cs, ct, cu, cz⟩, mc, mt⟩ = moved (partsOf mk) ⟨mk, mn, mr, mb, ms, mo, mv, vl, il, ⟨ca, cb, ck, cs, ct, cu, cz⟩, mc, mt⟩))) = _; rw [hne, hall]; rfl
          rw [hck, hc34]; rfl
        exact ⟨congrArg (fun z => Ending.returned (.int .i64 z)) hq2, H.toBelow ⟨(made_fresh hg2 hV hI), hpf, (fun g hg => by rw [List.mem_singleton.1 hg]; exact hg1), trivial⟩⟩
    · refine SxC.condT rfl (SxC.skip (SxN.then_ (SxC.seq (SxC.block (SxC.seq ?_)))))
      have hkl : k < q.length := by have h := hc19; simp [cmpB] at h; omega
      obtain ⟨⟨p, gc⟩, hx⟩ : ∃ x, q[k]? = some x := ⟨_, List.getElem?_eq_getElem hkl⟩
      obtain rfl := hpA (by rintro rfl; cases hx)
      have hp : (partsOf mk)[k]? = some p := by rw [← hq, List.getElem?_map, hx]; rfl
      have hql : q.length ≤ 4 := by have h := (parts_two mk).2; rw [← hq, List.length_map] at h; exact h
      refine SxC.region ?_
      refine SxL.val (v := .pointer (some ((⟨gb, 0, none⟩ : Addr).add (k * 4)))) trivial rfl rfl (fun ρ w E H => ex_index (i := k) E rfl Tryz.underlying95 sz_palaver_msg_part rfl rfl hkl) ?_
      refine SxL.val (v := .agg #[.func (.func p.putF) #[] #[], .func (.func p.takeF) #[] #[], .func (.func p.moveF) #[] #[], .func (.func p.mayF) #[] (p.cap gc).toArray]) trivial rfl rfl (fun ρ w E H => ex_loadX (cs := [.func (.func p.putF) #[] #[], .func (.func p.takeF) #[] #[], .func (.func p.moveF) #[] #[], .func (.func p.mayF) #[] (p.cap gc).toArray]) E (parts_row (H.get (i := 1) rfl) hx) rfl rfl Tryz.underlying101 rfl sz_palaver_msg_part) ?_
      refine SxL.new (cs := [.nilFunc, .nilFunc, .nilFunc, .nilFunc]) trivial rfl rfl (fun ρ w E H => ex_alloc rfl zr_palaver_msg_part rfl) fun g3 hg3 => ?_
      refine SxL.store (i := 0) trivial rfl rfl rfl rfl rfl sz_palaver_msg_part rfl rfl rfl ?_
      refine SxL.nil (SxN.then_ (SxC.seq (SxC.seq (SxC.region ?_))))
      refine SxL.val (v := .pointer (some ⟨g3, 3, none⟩)) trivial rfl rfl (fun ρ w E H => ex_field E rfl fa_palaver_msg_part_3 rfl rfl) ?_
      refine SxL.val trivial rfl rfl (fun ρ w E H => ex_load1 E (H.get (i := 0) rfl) rfl rfl Tryz.underlying34 rfl rfl) ?_
      refine SxL.val trivial rfl rfl (fun ρ w E H => ex_load (part := [.int .u8 (mk : Int), .int .u64 (mn : Int), .int .u8 (mr : Int), .int .u64 (mb : Int), .int .u64 (ms : Int), .int .u8 (mo : Int), .string ⟨mv.toArray⟩, .slice A vl.length ka, .slice B il.length kb, .int .u8 (ca : Int), .int .u32 (cb : Int), .int .u8 (ck : Int), .string ⟨cs.toArray⟩, .string ⟨ct.toArray⟩, .string ⟨cu.toArray⟩, .int .u8 (cz : Int), .int .u8 (mc : Int), .string ⟨mt.toArray⟩]) E (H.get (i := 3) rfl) rfl rfl Tryz.underlying33 rfl sz_palaver_api_Msg rfl rfl) ?_
      refine SxL.callBB (b := Pt.may p ⟨mk, mn, mr, mb, ms, mo, mv, vl, il, ⟨ca, cb, ck, cs, ct, cu, cz⟩, mc, mt⟩) trivial rfl rfl (fun ρ w E => ex_callV E (enters_may p) rfl rfl rfl rfl) (fun w H => may_all p ⟨mk, mn, mr, mb, ms, mo, mv, vl, il, ⟨ca, cb, ck, cs, ct, cu, cz⟩, mc, mt⟩ hf hs A B ka kb gc w (hr.below (H.toBelow ⟨(fun g hg => by rw [List.mem_singleton.1 hg]; exact hg3), (made_fresh hg2 hV hI), hpf, (fun g hg => by rw [List.mem_singleton.1 hg]; exact hg1), trivial⟩)) (parts_cap (H.get (i := 2) rfl) hx)) fun c25 hc25 => ?_
      cases c25
      · refine SxL.val (v := .bool true) trivial rfl rfl (fun ρ w E H => ex_not (t := false) E rfl rfl) ?_
        refine SxL.nil (SxN.then_ (SxC.condT rfl (SxC.seq (SxC.region ?_))))
        refine SxL.val trivial rfl rfl (fun ρ w E H => ex_assign E rfl rfl) ?_
        refine SxL.nil (SxN.then_ (SxC.ret (SxX.thenR (SxX.blockR (SxX.thenR (SxX.thenR (SxX.blockR (SxX.thenR ?_))))))))
        refine SxX.done (.int .i64 2) (fun a w K H => res1 K rfl rfl) (fun w H => ?_)
        have hq2 : (2 : Int) = (if checkB ⟨mk, mn, mr, mb, ms, mo, mv, vl, il, ⟨ca, cb, ck, cs, ct, cu, cz⟩, mc, mt⟩ then 0 else 2) := by
          clear H
          have hck : checkB ⟨mk, mn, mr, mb, ms, mo, mv, vl, il, ⟨ca, cb, ck, cs, ct, cu, cz⟩, mc, mt⟩ = false := by
            have hm : (partsOf mk).all (fun p => p.may ⟨mk, mn, mr, mb, ms, mo, mv, vl, il, ⟨ca, cb, ck, cs, ct, cu, cz⟩, mc, mt⟩) = false := by rw [List.all_eq_false]; exact ⟨p, List.mem_of_getElem? hp, by rw [hc25]; decide⟩
            show (!(partsOf mk).isEmpty && ((partsOf mk).all (fun p => p.may ⟨mk, mn, mr, mb, ms, mo, mv, vl, il, ⟨ca, cb, ck, cs, ct, cu, cz⟩, mc, mt⟩) && _)) = _
            rw [hm]; simp
          rw [hck]; rfl
        exact ⟨congrArg (fun z => Ending.returned (.int .i64 z)) hq2, H.toBelow ⟨(fun g hg => by rw [List.mem_singleton.1 hg]; exact hg3), (made_fresh hg2 hV hI), hpf, (fun g hg => by rw [List.mem_singleton.1 hg]; exact hg1), trivial⟩⟩
      · refine SxL.val (v := .bool false) trivial rfl rfl (fun ρ w E H => ex_not (t := true) E rfl rfl) ?_
        refine SxL.nil (SxN.then_ (SxC.condF rfl (SxC.skip (SxN.then_ (SxC.region ?_)))))
        refine SxL.val (v := .pointer (some ⟨g3, 2, none⟩)) trivial rfl rfl (fun ρ w E H => ex_field E rfl fa_palaver_msg_part_2 rfl rfl) ?_
        refine SxL.val trivial rfl rfl (fun ρ w E H => ex_load1 E (H.get (i := 0) rfl) rfl rfl Tryz.underlying99 rfl rfl) ?_
        refine SxL.val trivial rfl rfl (fun ρ w E H => ex_load (part := [.int .u8 (mk : Int), .int .u64 (mn : Int), .int .u8 (mr : Int), .int .u64 (mb : Int), .int .u64 (ms : Int), .int .u8 (mo : Int), .string ⟨mv.toArray⟩, .slice A vl.length ka, .slice B il.length kb, .int .u8 (ca : Int), .int .u32 (cb : Int), .int .u8 (ck : Int), .string ⟨cs.toArray⟩, .string ⟨ct.toArray⟩, .string ⟨cu.toArray⟩, .int .u8 (cz : Int), .int .u8 (mc : Int), .string ⟨mt.toArray⟩]) E (H.get (i := 3) rfl) rfl rfl Tryz.underlying33 rfl sz_palaver_api_Msg rfl rfl) ?_
        refine SxL.call2 (fun _ _ => .tuple #[]) (fun V2 I2 => OwnIn w [] V2 ∧ OwnIn w [] I2) (fun V2 I2 => _) trivial rfl rfl (fun ρ w E => ex_callV E (enters_move p) rfl rfl rfl rfl) (call_made (i := 1) rfl hg2 hV hI (fun w H => move_all p ⟨mk, mn, mr, mb, ms, mo, mv, vl, il, ⟨ca, cb, ck, cs, ct, cu, cz⟩, mc, mt⟩ hs A B ka kb _ g2 a V I w (hr.below (H.toBelow ⟨(fun g hg => by rw [List.mem_singleton.1 hg]; exact hg3), (made_fresh hg2 hV hI), hpf, (fun g hg => by rw [List.mem_singleton.1 hg]; exact hg1), trivial⟩)) (H.get (i := 1) rfl) H.os.size (fun hn ad e => by have h1 := hr.hv.lt hn ad e; omega) (fun hn ad e => by have h1 := hr.hi.lt hn ad e; omega))) fun V2 I2 hVI => ?_
        refine SxL.nil (SxN.block (SxN.then_ (SxC.region ?_)))
        refine SxL.val (v := .int .i64 ((k + 1 : Nat) : Int)) trivial rfl rfl (fun ρ w E H => ex_add E rfl rfl rfl (by rw [IntKind.wrap_i64]; omega)) ?_
        refine SxL.val trivial rfl rfl (fun ρ w E H => ex_move E rfl rfl) ?_
        refine SxL.nil ?_
        refine SxN.back (gk - 1) (k + 1, Pt.move p a ⟨mk, mn, mr, mb, ms, mo, mv, vl, il, ⟨ca, cb, ck, cs, ct, cu, cz⟩, mc, mt⟩, V2, I2) (by omega) ⟨by omega, by rw [take_snoc hp, ha]; unfold moved; rw [List.foldl_append]; rfl, by rw [take_snoc hp, List.all_append, hall]; simp [hc25], hVI.1, hVI.2⟩ ⟨rfl, rfl, rfl, rfl, rfl, rfl, rfl, trivial⟩ [1, 2, 3] rfl (by decide) ⟨.inr (fun g hg => by rw [List.mem_singleton.1 hg]; exact hg3), .inl rfl, .inl rfl, .inl rfl, trivial⟩
  · refine SxC.condT rfl (SxC.seq (SxC.region ?_))
    refine SxL.val trivial rfl rfl (fun ρ w E H => ex_assign E rfl rfl) ?_
    refine SxL.nil (SxN.then_ (SxC.ret (SxX.thenR ?_)))
    refine SxX.done (.int .i64 2) (fun a w K H => res1 K rfl rfl) (fun w H => ?_)
    have hq2 : (2 : Int) = (if checkB ⟨mk, mn, mr, mb, ms, mo, mv, vl, il, ⟨ca, cb, ck, cs, ct, cu, cz⟩, mc, mt⟩ then 0 else 2) := by
      clear H
      have hck : checkB ⟨mk, mn, mr, mb, ms, mo, mv, vl, il, ⟨ca, cb, ck, cs, ct, cu, cz⟩, mc, mt⟩ = false := by
        have h0 : q = [] := by have h := hc12; simp [cmpB] at h; cases q with | nil => rfl | cons x l => simp at h
        have hm : (partsOf mk).isEmpty = true := by rw [← hq, h0]; rfl
        show (!(partsOf mk).isEmpty && _) = _
        rw [hm]; rfl
      rw [hck]; rfl
    exact ⟨congrArg (fun z => Ending.returned (.int .i64 z)) hq2, H.toBelow ⟨hpf, (fun g hg => by rw [List.mem_singleton.1 hg]; exact hg1), trivial⟩⟩

theorem check_any (m : Ms) (A B : Option Addr) (ka kb : Nat) (w : World) (hf : m.Fits) (hs : m.Small) (hr : MsRows w m A B) : Calls Tryz.prog 12 #[msV m A ka B kb] w fun e w' => e = .returned (.int .i64 (if checkB m then 0 else 2)) ∧ Below w.heap.size w w' := by
  obtain ⟨mk, mn, mr, mb, ms, mo, mv, vl, il, ⟨ca, cb, ck, cs, ct, cu, cz⟩, mc, mt⟩ := m
  exact check_lit _ _ _ _ _ _ _ _ _ _ _ _ _ _ _ _ _ _ _ _ _ _ w hf hs hr
end Go.Proofs.YteiaiilfekojfaaGreat.Msg
end
section
set_option linter.unusedVariables false
set_option linter.unusedSimpArgs false
namespace Go.Proofs.YteiaiilfekojfaaGreat.Msg
open Go.RowKit Sx Wire DrawInv
set_option maxRecDepth 100000 in
set_option maxHeartbeats 4000000 in
theorem put_lit (mk mn mr mb ms mo ca cb ck cz mc : Nat) (mv cs ct cu mt : List UInt8) (vl : List Vo) (il : List Im) (A B : Option Addr) (ka kb : Nat) (w : World) (hf : Ms.Fits ⟨mk, mn, mr, mb, ms, mo, mv, vl, il, ⟨ca, cb, ck, cs, ct, cu, cz⟩, mc, mt⟩) (hs : Ms.Small ⟨mk, mn, mr, mb, ms, mo, mv, vl, il, ⟨ca, cb, ck, cs, ct, cu, cz⟩, mc, mt⟩) (hr : MsRows w ⟨mk, mn, mr, mb, ms, mo, mv, vl, il, ⟨ca, cb, ck, cs, ct, cu, cz⟩, mc, mt⟩ A B) : Calls Tryz.prog 13 #[.agg #[.int .u8 (mk : Int), .int .u64 (mn : Int), .int .u8 (mr : Int), .int .u64 (mb : Int), .int .u64 (ms : Int), .int .u8 (mo : Int), .string ⟨mv.toArray⟩, .slice A vl.length ka, .slice B il.length kb, .int .u8 (ca : Int), .int .u32 (cb : Int), .int .u8 (ck : Int), .string ⟨cs.toArray⟩, .string ⟨ct.toArray⟩, .string ⟨cu.toArray⟩, .int .u8 (cz : Int), .int .u8 (mc : Int), .string ⟨mt.toArray⟩]] w fun e w' => e = .returned (.tuple #[.string ⟨(putM ⟨mk, mn, mr, mb, ms, mo, mv, vl, il, ⟨ca, cb, ck, cs, ct, cu, cz⟩, mc, mt⟩).1.toArray⟩, .int .i64 ((putM ⟨mk, mn, mr, mb, ms, mo, mv, vl, il, ⟨ca, cb, ck, cs, ct, cu, cz⟩, mc, mt⟩).2 : Int)]) ∧ Below w.heap.size w w' := by
  refine sx_enter (n := 43) _ Tryz.func13 rfl rfl rfl (Hp.start w) ?_
  refine SxC.seq (SxC.region ?_)
  refine SxL.new (cs := [.int .u8 (mk : Int), .int .u64 (mn : Int), .int .u8 (mr : Int), .int .u64 (mb : Int), .int .u64 (ms : Int), .int .u8 (mo : Int), .string ⟨mv.toArray⟩, .slice A vl.length ka, .slice B il.length kb, .int .u8 (ca : Int), .int .u32 (cb : Int), .int .u8 (ck : Int), .string ⟨cs.toArray⟩, .string ⟨ct.toArray⟩, .string ⟨cu.toArray⟩, .int .u8 (cz : Int), .int .u8 (mc : Int), .string ⟨mt.toArray⟩]) trivial rfl rfl (fun ρ w E H => ex_box E rfl rfl rfl) fun g1 hg1 => ?_
  iterate 2 refine SxL.val trivial rfl rfl (fun ρ w E H => ex_assign E rfl rfl) ?_
  refine SxL.nil (SxN.then_ (SxC.seq (SxC.seq (SxC.region ?_))))
  refine SxL.val trivial rfl rfl (fun ρ w E H => ex_load (part := [.int .u8 (mk : Int), .int .u64 (mn : Int), .int .u8 (mr : Int), .int .u64 (mb : Int), .int .u64 (ms : Int), .int .u8 (mo : Int), .string ⟨mv.toArray⟩, .slice A vl.length ka, .slice B il.length kb, .int .u8 (ca : Int), .int .u32 (cb : Int), .int .u8 (ck : Int), .string ⟨cs.toArray⟩, .string ⟨ct.toArray⟩, .string ⟨cu.toArray⟩, .int .u8 (cz : Int), .int .u8 (mc : Int), .string ⟨mt.toArray⟩]) E (H.get (i := 0) rfl) rfl rfl Tryz.underlying33 rfl sz_palaver_api_Msg rfl rfl) ?_
  refine SxL.callB (v := .int .i64 (if checkB ⟨mk, mn, mr, mb, ms, mo, mv, vl, il, ⟨ca, cb, ck, cs, ct, cu, cz⟩, mc, mt⟩ then 0 else 2)) trivial rfl rfl (fun ρ w E => ex_call E en_palaver_msg_Check rfl rfl) (fun w H => check_any ⟨mk, mn, mr, mb, ms, mo, mv, vl, il, ⟨ca, cb, ck, cs, ct, cu, cz⟩, mc, mt⟩ A B ka kb w hf hs (hr.below (H.toBelow ⟨(fun g hg => by rw [List.mem_singleton.1 hg]; exact hg1), trivial⟩))) ?_
  refine SxL.val trivial rfl rfl (fun ρ w E H => ex_assign E rfl rfl) ?_
  refine SxL.nil (SxN.then_ (SxC.seq (SxC.region ?_)))
  refine SxL.val trivial rfl rfl (fun ρ w E H => ex_move E rfl rfl) ?_
  refine SxL.valB trivial rfl rfl (fun ρ w E H => ex_cmp E rfl rfl rfl rfl rfl) fun c13 hc13 => ?_
  refine SxL.nil (SxN.then_ ?_)
  cases c13
  · refine SxC.condF rfl (SxC.skip (SxN.then_ (SxC.seq (SxC.region ?_))))
    refine SxL.val (v := .pointer (some ⟨g1, 0, none⟩)) trivial rfl rfl (fun ρ w E H => ex_field E rfl fa_palaver_api_Msg_0 rfl rfl) ?_
    refine SxL.val trivial rfl rfl (fun ρ w E H => ex_load1 E (H.get (i := 0) rfl) rfl rfl Tryz.underlying5 rfl rfl) ?_
    refine SxL.newS (cs := [.int .u8 (mk : Int)]) trivial rfl rfl (fun ρ w E H => ex_buildSlice E rfl rfl Tryz.underlying103 sz_uint8 zr_uint8 rfl rfl (by kernel_rfl)) fun g2 hg2 => ?_
    refine SxL.val trivial rfl rfl (fun ρ w E H => ex_assign E rfl rfl) ?_
    refine SxL.nil (SxN.then_ (SxC.seq (SxC.seq (SxC.region ?_))))
    refine SxL.val (v := .pointer (some ⟨g1, 0, none⟩)) trivial rfl rfl (fun ρ w E H => ex_field E rfl fa_palaver_api_Msg_0 rfl rfl) ?_
    refine SxL.val trivial rfl rfl (fun ρ w E H => ex_load1 E (H.get (i := 1) rfl) rfl rfl Tryz.underlying5 rfl rfl) ?_
    refine SxL.call (σ := PS) (fun s => .slice s.A (List.length s.q) s.c) (fun s => _) (fun s => _) trivial rfl rfl (fun ρ w E => ex_call E en_palaver_msg_parts rfl rfl) (call_parts mk) fun s hs_ => ?_
    obtain ⟨pA, pc, gb, q⟩ := s
    obtain ⟨⟨hq, hpA⟩, hpf⟩ := hs_
    dsimp only at hq hpA hpf
    refine SxL.val (v := .int .i64 (q.length : Int)) trivial rfl rfl (fun ρ w E H => ex_lenS E rfl Tryz.underlying95 rfl) ?_
    refine SxL.val trivial rfl rfl (fun ρ w E H => ex_move E rfl rfl) ?_
    refine SxL.nil (SxN.then_ (SxC.block ?_))
    have hv0 : OwnIn w [] (.slice (some ⟨g2, 0, none⟩) 1 1) := fun b hb => .inr (by simp [Value.ownBlock] at hb; omega)
    refine SxC.hp (fun W H => H.re (i := 1) rfl (rowX [] w.heap.size 5 1 (.slice (some ⟨g2, 0, none⟩) 1 1) ((insB ⟨mk, mn, mr, mb, ms, mo, mv, vl, il, ⟨ca, cb, ck, cs, ct, cu, cz⟩, mc, mt⟩ 0).length) (bv (insB ⟨mk, mn, mr, mb, ms, mo, mv, vl, il, ⟨ca, cb, ck, cs, ct, cu, cz⟩, mc, mt⟩ 0))) (rowX_loc _ _ _ _ _ _ _) rfl (fun h => own_as (own_new1 h hg2) (by simp [insB]) (by simp only [insB, List.take_zero, List.flatMap_nil]; have hk := hf.h1; exact bv_snoc [] mk hk))) ?_
    refine SxC.loop2 (fun (k : Nat) (v : Value) => [(1, .pointer (some ⟨g1, 0, none⟩)), (5, v), (20, .slice pA q.length pc), (21, .int .i64 (q.length : Int)), (22, .int .i64 (k : Int))]) (fun (k : Nat) (v : Value) => [partsF gb q, rowX [] w.heap.size 5 1 v ((insB ⟨mk, mn, mr, mb, ms, mo, mv, vl, il, ⟨ca, cb, ck, cs, ct, cu, cz⟩, mc, mt⟩ k).length) (bv (insB ⟨mk, mn, mr, mb, ms, mo, mv, vl, il, ⟨ca, cb, ck, cs, ct, cu, cz⟩, mc, mt⟩ k)), cell g1 33 [.int .u8 (mk : Int), .int .u64 (mn : Int), .int .u8 (mr : Int), .int .u64 (mb : Int), .int .u64 (ms : Int), .int .u8 (mo : Int), .string ⟨mv.toArray⟩, .slice A vl.length ka, .slice B il.length kb, .int .u8 (ca : Int), .int .u32 (cb : Int), .int .u8 (ck : Int), .string ⟨cs.toArray⟩, .string ⟨ct.toArray⟩, .string ⟨cu.toArray⟩, .int .u8 (cz : Int), .int .u8 (mc : Int), .string ⟨mt.toArray⟩]]) (fun (gk : Nat) (k : Nat) (v : Value) => k + gk = q.length ∧ OwnIn w [] v) q.length 0 (.slice (some ⟨g2, 0, none⟩) 1 1) ⟨by omega, hv0⟩ ⟨rfl, rfl, rfl, rfl, rfl, trivial⟩ [0, 1, 2] rfl (by decide) ⟨.inl rfl, .inl rfl, .inl rfl, trivial⟩ fun gk k v hF => ?_
    obtain ⟨hkg, hv⟩ := hF
    refine SxC.seq (SxC.region ?_)
    refine SxL.valB trivial rfl rfl (fun ρ w E H => ex_cmp E rfl rfl rfl rfl rfl) fun c23 hc23 => ?_
    refine SxL.nil (SxN.then_ (SxC.seq ?_))
    cases c23
    · refine SxC.condF rfl (SxC.exit (SxX.thenE (SxX.thenE (SxX.blockE (SxN.then_ (SxC.seq (SxC.region ?_)))))))
      refine SxL.val trivial rfl rfl (fun ρ w E H => ex_move E rfl rfl) ?_
      have hend : insB ⟨mk, mn, mr, mb, ms, mo, mv, vl, il, ⟨ca, cb, ck, cs, ct, cu, cz⟩, mc, mt⟩ k = insideB ⟨mk, mn, mr, mb, ms, mo, mv, vl, il, ⟨ca, cb, ck, cs, ct, cu, cz⟩, mc, mt⟩ := insB_end (by show (partsOf mk).length ≤ k; rw [← hq, List.length_map]; have h := hc23; simp [cmpB] at h; omega)
      refine SxL.val (v := .string ⟨(insideB ⟨mk, mn, mr, mb, ms, mo, mv, vl, il, ⟨ca, cb, ck, cs, ct, cu, cz⟩, mc, mt⟩).toArray⟩) trivial rfl rfl (fun ρ w E H => ex_convS E rfl Tryz.underlying103 Tryz.underlying5 Tryz.underlying9 rfl (H.get (i := 1) rfl) (by rw [hend])) ?_
      refine SxL.call (σ := Value) (fun s => .tuple #[s, .int .i64 ((fpB (insideB ⟨mk, mn, mr, mb, ms, mo, mv, vl, il, ⟨ca, cb, ck, cs, ct, cu, cz⟩, mc, mt⟩)).2 : Int)]) (fun s => OwnIn w [] s) (fun s => _) trivial rfl rfl (fun ρ w E => ex_call E en_palaver_frame_Put rfl rfl) (callOwnV (fun s => .tuple #[s, .int .i64 ((fpB (insideB ⟨mk, mn, mr, mb, ms, mo, mv, vl, il, ⟨ca, cb, ck, cs, ct, cu, cz⟩, mc, mt⟩)).2 : Int)]) (fun w H => fput_any (insideB ⟨mk, mn, mr, mb, ms, mo, mv, vl, il, ⟨ca, cb, ck, cs, ct, cu, cz⟩, mc, mt⟩) (by simp [insideB]) (by rw [← hend]; exact insB_len _ hf hs k) w)) fun v35 hv35 => ?_
      refine SxL.val trivial rfl rfl (fun ρ w E H => ex_move E rfl rfl) ?_
      refine SxL.val (v := v35) trivial rfl rfl (fun ρ w E H => ex_extract E rfl rfl rfl) ?_
      refine SxL.val trivial rfl rfl (fun ρ w E H => ex_extract E rfl rfl rfl) ?_
      iterate 2 refine SxL.val trivial rfl rfl (fun ρ w E H => ex_assign E rfl rfl) ?_
      refine SxL.nil (SxN.then_ (SxC.seq (SxC.seq (SxC.region ?_))))
      refine SxL.val trivial rfl rfl (fun ρ w E H => ex_move E rfl rfl) ?_
      refine SxL.valB trivial rfl rfl (fun ρ w E H => ex_cmp E rfl rfl rfl rfl rfl) fun c39 hc39 => ?_
      refine SxL.nil (SxN.then_ ?_)
      cases c39
      · refine SxC.condF rfl (SxC.skip (SxN.then_ (SxC.seq (SxC.region ?_))))
        refine SxL.val trivial rfl rfl (fun ρ w E H => ex_move E rfl rfl) ?_
        refine SxL.val (v := .string ⟨(fpB (insideB ⟨mk, mn, mr, mb, ms, mo, mv, vl, il, ⟨ca, cb, ck, cs, ct, cu, cz⟩, mc, mt⟩)).1.toArray⟩) trivial rfl rfl (fun ρ w E H => ex_convS E rfl Tryz.underlying103 Tryz.underlying5 Tryz.underlying9 rfl (H.get (i := 0) rfl) (rfl)) ?_
        iterate 2 refine SxL.val trivial rfl rfl (fun ρ w E H => ex_assign E rfl rfl) ?_
        refine SxL.nil (SxN.then_ (SxC.ret ?_))
        refine SxX.done (.tuple #[.string ⟨((fpB (insideB ⟨mk, mn, mr, mb, ms, mo, mv, vl, il, ⟨ca, cb, ck, cs, ct, cu, cz⟩, mc, mt⟩)).1).toArray⟩, .int .i64 0]) (fun a w K H => res2 K rfl rfl rfl) (fun w H => ?_)
        -- what is told
        have hck : checkB ⟨mk, mn, mr, mb, ms, mo, mv, vl, il, ⟨ca, cb, ck, cs, ct, cu, cz⟩, mc, mt⟩ = true := by cases hb : checkB ⟨mk, mn, mr, mb, ms, mo, mv, vl, il, ⟨ca, cb, ck, cs, ct, cu, cz⟩, mc, mt⟩ with | true => rfl | false => (have h := hc13; rw [hb] at h; simp [cmpB] at h)
        have hpm := putM_is _ hck
        have h0 : (fpB (insideB ⟨mk, mn, mr, mb, ms, mo, mv, vl, il, ⟨ca, cb, ck, cs, ct, cu, cz⟩, mc, mt⟩)).2 = 0 := by have h := hc39; simp [cmpB] at h; omega
        have hq2 : putM ⟨mk, mn, mr, mb, ms, mo, mv, vl, il, ⟨ca, cb, ck, cs, ct, cu, cz⟩, mc, mt⟩ = ((fpB (insideB ⟨mk, mn, mr, mb, ms, mo, mv, vl, il, ⟨ca, cb, ck, cs, ct, cu, cz⟩, mc, mt⟩)).1, 0) := by rw [hpm, ← h0]
        rw [hq2]
        exact ⟨rfl, H.toBelow ⟨hv35.fresh, hpf, hv.fresh, (fun g hg => by rw [List.mem_singleton.1 hg]; exact hg1), trivial⟩⟩
      · refine SxC.condT rfl (SxC.seq (SxC.region ?_))
        refine SxL.val trivial rfl rfl (fun ρ w E H => ex_move E rfl rfl) ?_
        iterate 2 refine SxL.val trivial rfl rfl (fun ρ w E H => ex_assign E rfl rfl) ?_
        refine SxL.nil (SxN.then_ (SxC.ret (SxX.thenR ?_)))
        refine SxX.done (.tuple #[.string ⟨[].toArray⟩, .int .i64 ((fpB (insideB ⟨mk, mn, mr, mb, ms, mo, mv, vl, il, ⟨ca, cb, ck, cs, ct, cu, cz⟩, mc, mt⟩)).2 : Int)]) (fun a w K H => res2 K rfl rfl rfl) (fun w H => ?_)
        -- what is told
        have hck : checkB ⟨mk, mn, mr, mb, ms, mo, mv, vl, il, ⟨ca, cb, ck, cs, ct, cu, cz⟩, mc, mt⟩ = true := by cases hb : checkB ⟨mk, mn, mr, mb, ms, mo, mv, vl, il, ⟨ca, cb, ck, cs, ct, cu, cz⟩, mc, mt⟩ with | true => rfl | false => (have h := hc13; rw [hb] at h; simp [cmpB] at h)
        have hpm := putM_is _ hck
        have hq2 : putM ⟨mk, mn, mr, mb, ms, mo, mv, vl, il, ⟨ca, cb, ck, cs, ct, cu, cz⟩, mc, mt⟩ = ([], (fpB (insideB ⟨mk, mn, mr, mb, ms, mo, mv, vl, il, ⟨ca, cb, ck, cs, ct, cu, cz⟩, mc, mt⟩)).2) := by rw [hpm]; exact fpB_bad _ (by have h := hc39; simp [cmpB] at h; omega)
        rw [hq2]
        exact ⟨rfl, H.toBelow ⟨hv35.fresh, hpf, hv.fresh, (fun g hg => by rw [List.mem_singleton.1 hg]; exact hg1), trivial⟩⟩
    · refine SxC.condT rfl (SxC.skip (SxN.then_ (SxC.seq (SxC.block (SxC.seq ?_)))))
      have hkl : k < q.length := by have h := hc23; simp [cmpB] at h; omega
      obtain ⟨⟨p, gc⟩, hx⟩ : ∃ x, q[k]? = some x := ⟨_, List.getElem?_eq_getElem hkl⟩
      obtain rfl := hpA (by rintro rfl; cases hx)
      have hp : (partsOf mk)[k]? = some p := by rw [← hq, List.getElem?_map, hx]; rfl
      have hql : q.length ≤ 4 := by have h := (parts_two mk).2; rw [← hq, List.length_map] at h; exact h
      refine SxC.region ?_
      refine SxL.val (v := .pointer (some ((⟨gb, 0, none⟩ : Addr).add (k * 4)))) trivial rfl rfl (fun ρ w E H => ex_index (i := k) E rfl Tryz.underlying95 sz_palaver_msg_part rfl rfl hkl) ?_
      refine SxL.val (v := .agg #[.func (.func p.putF) #[] #[], .func (.func p.takeF) #[] #[], .func (.func p.moveF) #[] #[], .func (.func p.mayF) #[] (p.cap gc).toArray]) trivial rfl rfl (fun ρ w E H => ex_loadX (cs := [.func (.func p.putF) #[] #[], .func (.func p.takeF) #[] #[], .func (.func p.moveF) #[] #[], .func (.func p.mayF) #[] (p.cap gc).toArray]) E (parts_row (H.get (i := 0) rfl) hx) rfl rfl Tryz.underlying101 rfl sz_palaver_msg_part) ?_
      refine SxL.new (cs := [.nilFunc, .nilFunc, .nilFunc, .nilFunc]) trivial rfl rfl (fun ρ w E H => ex_alloc rfl zr_palaver_msg_part rfl) fun g3 hg3 => ?_
      refine SxL.store (i := 0) trivial rfl rfl rfl rfl rfl sz_palaver_msg_part rfl rfl rfl ?_
      refine SxL.nil (SxN.then_ (SxC.region ?_))
      refine SxL.val (v := .pointer (some ⟨g3, 0, none⟩)) trivial rfl rfl (fun ρ w E H => ex_field E rfl fa_palaver_msg_part_0 rfl rfl) ?_
      refine SxL.val trivial rfl rfl (fun ρ w E H => ex_load1 E (H.get (i := 0) rfl) rfl rfl Tryz.underlying97 rfl rfl) ?_
      refine SxL.val trivial rfl rfl (fun ρ w E H => ex_move E rfl rfl) ?_
      refine SxL.val trivial rfl rfl (fun ρ w E H => ex_load (part := [.int .u8 (mk : Int), .int .u64 (mn : Int), .int .u8 (mr : Int), .int .u64 (mb : Int), .int .u64 (ms : Int), .int .u8 (mo : Int), .string ⟨mv.toArray⟩, .slice A vl.length ka, .slice B il.length kb, .int .u8 (ca : Int), .int .u32 (cb : Int), .int .u8 (ck : Int), .string ⟨cs.toArray⟩, .string ⟨ct.toArray⟩, .string ⟨cu.toArray⟩, .int .u8 (cz : Int), .int .u8 (mc : Int), .string ⟨mt.toArray⟩]) E (H.get (i := 3) rfl) rfl rfl Tryz.underlying33 rfl sz_palaver_api_Msg rfl rfl) ?_
      refine SxL.call (σ := Value) (fun s => s) (fun s => OwnIn w [] s) (fun s => _) trivial rfl rfl (fun ρ w E => ex_callV E (enters_put p) rfl rfl rfl rfl) (callGrow (i := 2) (m' := (insB ⟨mk, mn, mr, mb, ms, mo, mv, vl, il, ⟨ca, cb, ck, cs, ct, cu, cz⟩, mc, mt⟩ k ++ p.put ⟨mk, mn, mr, mb, ms, mo, mv, vl, il, ⟨ca, cb, ck, cs, ct, cu, cz⟩, mc, mt⟩).length) (xs' := bv (insB ⟨mk, mn, mr, mb, ms, mo, mv, vl, il, ⟨ca, cb, ck, cs, ct, cu, cz⟩, mc, mt⟩ k ++ p.put ⟨mk, mn, mr, mb, ms, mo, mv, vl, il, ⟨ca, cb, ck, cs, ct, cu, cz⟩, mc, mt⟩)) rfl hv (fun w H => put_all p ⟨mk, mn, mr, mb, ms, mo, mv, vl, il, ⟨ca, cb, ck, cs, ct, cu, cz⟩, mc, mt⟩ hf hs A B ka kb _ v (insB ⟨mk, mn, mr, mb, ms, mo, mv, vl, il, ⟨ca, cb, ck, cs, ct, cu, cz⟩, mc, mt⟩ k) w (hr.below (H.toBelow ⟨(fun g hg => by rw [List.mem_singleton.1 hg]; exact hg3), hpf, hv.fresh, (fun g hg => by rw [List.mem_singleton.1 hg]; exact hg1), trivial⟩)) (insB_len _ hf hs k) H.os.size (H.get (i := 2) rfl) (fun hn ad e => hr.hv.lt hn ad e) (fun hn ad e => hr.hi.lt hn ad e))) fun v2 hv2 => ?_
      refine SxL.hp (fun W H => H.re (i := 2) rfl (rowX [] w.heap.size 5 1 v2 ((insB ⟨mk, mn, mr, mb, ms, mo, mv, vl, il, ⟨ca, cb, ck, cs, ct, cu, cz⟩, mc, mt⟩ (k + 1)).length) (bv (insB ⟨mk, mn, mr, mb, ms, mo, mv, vl, il, ⟨ca, cb, ck, cs, ct, cu, cz⟩, mc, mt⟩ (k + 1)))) (rowX_loc _ _ _ _ _ _ _) rfl (fun h => own_as h (by rw [insB_succ hp]) (by rw [insB_succ hp]))) ?_
      refine SxL.val trivial rfl rfl (fun ρ w E H => ex_assign E rfl rfl) ?_
      refine SxL.nil (SxN.block (SxN.then_ (SxC.region ?_)))
      refine SxL.val (v := .int .i64 ((k + 1 : Nat) : Int)) trivial rfl rfl (fun ρ w E H => ex_add E rfl rfl rfl (by rw [IntKind.wrap_i64]; omega)) ?_
      refine SxL.val trivial rfl rfl (fun ρ w E H => ex_move E rfl rfl) ?_
      refine SxL.nil ?_
      refine SxN.back (gk - 1) (k + 1, v2) (by omega) ⟨by omega, hv2⟩ ⟨rfl, rfl, rfl, rfl, rfl, trivial⟩ [1, 2, 3] rfl (by decide) ⟨.inr (fun g hg => by rw [List.mem_singleton.1 hg]; exact hg3), .inl rfl, .inl rfl, .inl rfl, trivial⟩
  · refine SxC.condT rfl (SxC.seq (SxC.region ?_))
    refine SxL.val trivial rfl rfl (fun ρ w E H => ex_move E rfl rfl) ?_
    iterate 2 refine SxL.val trivial rfl rfl (fun ρ w E H => ex_assign E rfl rfl) ?_
    refine SxL.nil (SxN.then_ (SxC.ret (SxX.thenR ?_)))
    refine SxX.done (.tuple #[.string ⟨[].toArray⟩, .int .i64 (if checkB ⟨mk, mn, mr, mb, ms, mo, mv, vl, il, ⟨ca, cb, ck, cs, ct, cu, cz⟩, mc, mt⟩ then 0 else 2)]) (fun a w K H => res2 K rfl rfl rfl) (fun w H => ?_)
    -- what is told
    have hck : checkB ⟨mk, mn, mr, mb, ms, mo, mv, vl, il, ⟨ca, cb, ck, cs, ct, cu, cz⟩, mc, mt⟩ = false := by cases hb : checkB ⟨mk, mn, mr, mb, ms, mo, mv, vl, il, ⟨ca, cb, ck, cs, ct, cu, cz⟩, mc, mt⟩ with | false => rfl | true => (have h := hc13; rw [hb] at h; simp [cmpB] at h)
    have hq2 : putM ⟨mk, mn, mr, mb, ms, mo, mv, vl, il, ⟨ca, cb, ck, cs, ct, cu, cz⟩, mc, mt⟩ = ([], 2) := by unfold putM; rw [if_neg (by rw [hck]; decide)]
    rw [hck]
    rw [hq2]
    exact ⟨rfl, H.toBelow ⟨(fun g hg => by rw [List.mem_singleton.1 hg]; exact hg1), trivial⟩⟩

theorem put_any (m : Ms) (A B : Option Addr) (ka kb : Nat) (w : World) (hf : m.Fits) (hs : m.Small) (hr : MsRows w m A B) : Calls Tryz.prog 13 #[msV m A ka B kb] w fun e w' => e = .returned (.tuple #[.string ⟨(putM m).1.toArray⟩, .int .i64 ((putM m).2 : Int)]) ∧ Below w.heap.size w w' := by
  obtain ⟨mk, mn, mr, mb, ms, mo, mv, vl, il, ⟨ca, cb, ck, cs, ct, cu, cz⟩, mc, mt⟩ := m
  exact put_lit _ _ _ _ _ _ _ _ _ _ _ _ _ _ _ _ _ _ _ _ _ _ w hf hs hr
end Go.Proofs.YteiaiilfekojfaaGreat.Msg
end
section
set_option linter.unusedVariables false
set_option linter.unusedSimpArgs false
namespace Go.Proofs.YteiaiilfekojfaaGreat.Net
open Go.RowKit Sx Wire DrawInv
open Msg
def sendN (bag : List Pa) (f t : Nat) (m : Ms) : List Pa × Nat := if apartB f t = true then (if (putM m).2 ≠ 0 then (bag, (putM m).2) else if 512 ≤ bag.length then (bag, 7) else (bag ++ [⟨f, t, (putM m).1⟩], 0)) else (bag, 2)
theorem netF_lt {base g gm : Nat} {V : Value} {bag : List Pa} {M : CutM} {w : World} (hn : (netF base g gm V bag M).φ w) : ∀ b ∈ g :: gm :: V.ownBlock.toList, b < w.heap.size := fun b hb => by
  rcases List.mem_cons.1 hb with rfl | hb
  · exact Blk.lt hn.1
  rcases List.mem_cons.1 hb with rfl | hb
  · exact hn.2.2.lt
  · exact (own_lt hn.2.1 b hb).2
theorem netTo_below {base g gm : Nat} {V : Value} {bag : List Pa} {M : CutM} {w w' : World} (hn : (netF base g gm V bag M).φ w) (hb : Below w.heap.size w w') : NetTo base g gm V bag M w w' := by
  have hlt : ∀ b ∈ (netF base g gm V bag M).fp, b < w.heap.size := fun b hb => by
    rcases List.mem_cons.1 hb with rfl | hb
    · exact Blk.lt hn.1
    rcases List.mem_cons.1 hb with rfl | hb
    · exact hn.2.2.lt
    · exact (own_lt hn.2.1 b hb).2
  exact ⟨V, netF_loc base g gm V bag M w w' (fun b hm => hb.block b (hlt b hm)) hn, fun b hm => .inl hm, ⟨hb.os, hb.tape, hb.output, hb.size, fun k hk _ => hb.block k hk⟩⟩
theorem _root_.Go.Proofs.YteiaiilfekojfaaGreat.Sx.Hp.knowNet {base g gm : Nat} {V : Value} {bag : List Pa} {M : CutM} {w W : World} {L : List Ft} (H : Hp w L W) (hf : allF L fun f => ∀ g ∈ f.fp, w.heap.size ≤ g) (hn : (netF base g gm V bag M).φ w) :
    Hp w (cell g 130 [V, .map (some gm)] :: rowX V.ownBlock.toList base 134 3 V bag.length (bag.flatMap paL) :: mapF gm twoV M :: L) W := by
  have hlt : ∀ b ∈ (netF base g gm V bag M).fp, b < w.heap.size := fun b hb => by
    rcases List.mem_cons.1 hb with rfl | hb
    · exact Blk.lt hn.1
    rcases List.mem_cons.1 hb with rfl | hb
    · exact hn.2.2.lt
    · exact (own_lt hn.2.1 b hb).2
  have hb := H.toBelow hf
  have hn2 := netF_loc base g gm V bag M w W (fun b hm => hb.block b (hlt b hm)) hn
  obtain ⟨a1, a2, a3⟩ := netF_apart hn2
  have hne : ∀ b ∈ (netF base g gm V bag M).fp, ∀ q ∈ L, b ∉ q.fp := fun b hm q hq hbq => by
    have := hlt b hm
    have := hf.mem q hq b hbq
    omega
  obtain ⟨h1, h2, h3⟩ := hn2
  have H0 := H.know (mapF gm twoV M) (mapF_loc _ _ _) (fun b hb => by
    obtain rfl := List.mem_singleton.1 hb
    exact ⟨h3.lt, fun q hq => hne _ (List.mem_cons_of_mem _ (List.mem_cons_self ..)) q hq⟩) h3
  have H1 := H0.know (rowX V.ownBlock.toList base 134 3 V bag.length (bag.flatMap paL)) (rowX_loc _ _ _ _ _ _ _) (fun b hb => by
    have hb : b ∈ V.ownBlock.toList := by simpa [rowX] using hb
    refine ⟨(own_lt h2 b hb).2, fun q hq hbq => ?_⟩
    rcases List.mem_cons.1 hq with rfl | hq
    · obtain rfl := List.mem_singleton.1 hbq
      exact a3 hb
    · exact hne b (List.mem_cons_of_mem _ (List.mem_cons_of_mem _ hb)) q hq hbq) h2
  refine H1.know _ (cell_loc _ _ _) (fun b hb => ?_) h1
  obtain rfl := List.mem_singleton.1 hb
  refine ⟨Blk.lt h1, fun q hq hbq => ?_⟩
  rcases List.mem_cons.1 hq with rfl | hq
  · exact a2 (by simpa [rowX] using hbq)
  rcases List.mem_cons.1 hq with rfl | hq
  · exact a1 (List.mem_singleton.1 hbq)
  · exact hne _ (List.mem_cons_self ..) q hq hbq
theorem findO_lt {bag : List Pa} {f t i : Nat} {k : Int} (h : findO bag f t k = some i) : i < bag.length ∧ hasB bag f t i = true := by
  unfold findO at h
  split at h
  · exact idxs_lt bag f t _ i (List.mem_of_getElem? h)
  · cases h
theorem hasB_get {bag : List Pa} {f t i : Nat} (h : hasB bag f t i = true) : ∃ s, bag[i]? = some ⟨f, t, s⟩ := by
  unfold hasB at h
  cases hx : bag[i]? with
  | none => rw [hx] at h; cases h
  | some p =>
    rw [hx] at h
    obtain ⟨a, b, s⟩ := p
    simp at h
    exact ⟨s, by rw [h.1, h.2]⟩

end Go.Proofs.YteiaiilfekojfaaGreat.Net
end
section
set_option linter.unusedVariables false
set_option linter.unusedSimpArgs false
namespace Go.Proofs.YteiaiilfekojfaaGreat.Net
open Go.RowKit Sx Wire DrawInv
open Msg
set_option maxRecDepth 100000 in
set_option maxHeartbeats 4000000 in
theorem send_lit (base g gm : Nat) (V : Value) (bag : List Pa) (M : CutM) (f t : Nat) (mk mn mr mb ms mo ca cb ck cz mc : Nat) (mv cs ct cu mt : List UInt8) (vl : List Vo) (il : List Im) (A B : Option Addr) (ka kb : Nat) (w : World) (hn : (netF base g gm V bag M).φ w) (hb512 : bag.length ≤ 512) (hbase : base ≤ w.heap.size) (hf : Ms.Fits ⟨mk, mn, mr, mb, ms, mo, mv, vl, il, ⟨ca, cb, ck, cs, ct, cu, cz⟩, mc, mt⟩) (hs : Ms.Small ⟨mk, mn, mr, mb, ms, mo, mv, vl, il, ⟨ca, cb, ck, cs, ct, cu, cz⟩, mc, mt⟩) (hr : MsRows w ⟨mk, mn, mr, mb, ms, mo, mv, vl, il, ⟨ca, cb, ck, cs, ct, cu, cz⟩, mc, mt⟩ A B) : Calls Tryz.prog 30 #[.pointer (some ⟨g, 0, none⟩), .agg #[.int .u8 (f : Int), .int .u8 (t : Int), .int .u8 (mk : Int), .int .u64 (mn : Int), .int .u8 (mr : Int), .int .u64 (mb : Int), .int .u64 (ms : Int), .int .u8 (mo : Int), .string ⟨mv.toArray⟩, .slice A vl.length ka, .slice B il.length kb, .int .u8 (ca : Int), .int .u32 (cb : Int), .int .u8 (ck : Int), .string ⟨cs.toArray⟩, .string ⟨ct.toArray⟩, .string ⟨cu.toArray⟩, .int .u8 (cz : Int), .int .u8 (mc : Int), .string ⟨mt.toArray⟩]] w fun e w' => e = .returned (.int .i64 ((sendN bag f t ⟨mk, mn, mr, mb, ms, mo, mv, vl, il, ⟨ca, cb, ck, cs, ct, cu, cz⟩, mc, mt⟩).2 : Int)) ∧ NetTo base g gm V (sendN bag f t ⟨mk, mn, mr, mb, ms, mo, mv, vl, il, ⟨ca, cb, ck, cs, ct, cu, cz⟩, mc, mt⟩).1 M w w' := by
  obtain ⟨Ab, cbb, rfl⟩ := own_is_slice hn.2.1
  have hv0 : OwnIn w (Value.slice Ab bag.length cbb).ownBlock.toList (.slice Ab bag.length cbb) := fun b hb => .inl hb
  obtain ⟨⟨ps, pe⟩, hpm⟩ : ∃ x, putM ⟨mk, mn, mr, mb, ms, mo, mv, vl, il, ⟨ca, cb, ck, cs, ct, cu, cz⟩, mc, mt⟩ = x := ⟨_, rfl⟩
  refine sx_enter (n := 46) _ Tryz.func30 rfl rfl rfl (Hp.start w) ?_
  refine SxC.seq (SxC.region ?_)
  refine SxL.new (cs := [.int .u8 (f : Int), .int .u8 (t : Int), .int .u8 (mk : Int), .int .u64 (mn : Int), .int .u8 (mr : Int), .int .u64 (mb : Int), .int .u64 (ms : Int), .int .u8 (mo : Int), .string ⟨mv.toArray⟩, .slice A vl.length ka, .slice B il.length kb, .int .u8 (ca : Int), .int .u32 (cb : Int), .int .u8 (ck : Int), .string ⟨cs.toArray⟩, .string ⟨ct.toArray⟩, .string ⟨cu.toArray⟩, .int .u8 (cz : Int), .int .u8 (mc : Int), .string ⟨mt.toArray⟩]) trivial rfl rfl (fun ρ w E H => ex_box E rfl rfl rfl) fun g1 hg1 => ?_
  refine SxL.val trivial rfl rfl (fun ρ w E H => ex_assign E rfl rfl) ?_
  refine SxL.nil (SxN.then_ (SxC.seq (SxC.seq (SxC.region ?_))))
  refine SxL.val trivial rfl rfl (fun ρ w E H => ex_move E rfl rfl) ?_
  refine SxL.val (v := .bool false) trivial rfl rfl (fun ρ w E H => ex_pnil E rfl Tryz.underlying48 rfl rfl rfl) ?_
  refine SxL.nil (SxN.then_ (SxC.condF rfl (SxC.skip (SxN.then_ (SxC.seq (SxC.seq (SxC.region ?_)))))))
  refine SxL.val (v := .pointer (some ⟨g1, 0, none⟩)) trivial rfl rfl (fun ρ w E H => ex_field E rfl fa_palaver_api_Letter_0 rfl rfl) ?_
  refine SxL.val trivial rfl rfl (fun ρ w E H => ex_load1 E (H.get (i := 0) rfl) rfl rfl Tryz.underlying5 rfl rfl) ?_
  refine SxL.val (v := .pointer (some ⟨g1, 1, none⟩)) trivial rfl rfl (fun ρ w E H => ex_field E rfl fa_palaver_api_Letter_1 rfl rfl) ?_
  refine SxL.val trivial rfl rfl (fun ρ w E H => ex_load1 E (H.get (i := 0) rfl) rfl rfl Tryz.underlying5 rfl rfl) ?_
  refine SxL.callBB (b := (apartB f t)) trivial rfl rfl (fun ρ w E => ex_call E en_palaver_net_apart rfl rfl) (fun w H => apart_any f t w) fun c13 hc13 => ?_
  cases c13
  · refine SxL.val (v := .bool true) trivial rfl rfl (fun ρ w E H => ex_not (t := false) E rfl rfl) ?_
    refine SxL.nil (SxN.then_ (SxC.condT rfl (SxC.seq (SxC.region ?_))))
    refine SxL.val trivial rfl rfl (fun ρ w E H => ex_assign E rfl rfl) ?_
    refine SxL.nil (SxN.then_ (SxC.ret (SxX.thenR ?_)))
    refine SxX.done (.int .i64 2) (fun a w K H => res1 K rfl rfl) (fun w H => ?_)
    have hq : sendN bag f t ⟨mk, mn, mr, mb, ms, mo, mv, vl, il, ⟨ca, cb, ck, cs, ct, cu, cz⟩, mc, mt⟩ = (bag, 2) := by unfold sendN; rw [if_neg (by rw [hc13]; decide)]
    rw [hq]
    exact ⟨rfl, netTo_below hn (H.toBelow ⟨(fun g hg => by rw [List.mem_singleton.1 hg]; exact hg1), trivial⟩)⟩
  · refine SxL.val (v := .bool false) trivial rfl rfl (fun ρ w E H => ex_not (t := true) E rfl rfl) ?_
    refine SxL.nil (SxN.then_ (SxC.condF rfl (SxC.skip (SxN.then_ (SxC.seq (SxC.region ?_))))))
    refine SxL.val (v := .pointer (some ⟨g1, 2, none⟩)) trivial rfl rfl (fun ρ w E H => ex_field E rfl fa_palaver_api_Letter_2 rfl rfl) ?_
    refine SxL.val trivial rfl rfl (fun ρ w E H => ex_load (part := [.int .u8 (mk : Int), .int .u64 (mn : Int), .int .u8 (mr : Int), .int .u64 (mb : Int), .int .u64 (ms : Int), .int .u8 (mo : Int), .string ⟨mv.toArray⟩, .slice A vl.length ka, .slice B il.length kb, .int .u8 (ca : Int), .int .u32 (cb : Int), .int .u8 (ck : Int), .string ⟨cs.toArray⟩, .string ⟨ct.toArray⟩, .string ⟨cu.toArray⟩, .int .u8 (cz : Int), .int .u8 (mc : Int), .string ⟨mt.toArray⟩]) E (H.get (i := 0) rfl) rfl rfl Tryz.underlying33 rfl sz_palaver_api_Msg rfl rfl) ?_
    refine SxL.callB (v := .tuple #[.string ⟨ps.toArray⟩, .int .i64 (pe : Int)]) trivial rfl rfl (fun ρ w E => ex_call E en_palaver_msg_Put rfl rfl) (fun w H => (put_any ⟨mk, mn, mr, mb, ms, mo, mv, vl, il, ⟨ca, cb, ck, cs, ct, cu, cz⟩, mc, mt⟩ A B ka kb w hf hs (hr.below (H.toBelow ⟨(fun g hg => by rw [List.mem_singleton.1 hg]; exact hg1), trivial⟩))).mono fun _ _ h => ⟨by rw [h.1, hpm], h.2⟩) ?_
    refine SxL.val trivial rfl rfl (fun ρ w E H => ex_move E rfl rfl) ?_
    refine SxL.val (v := .string ⟨ps.toArray⟩) trivial rfl rfl (fun ρ w E H => ex_extract E rfl rfl rfl) ?_
    refine SxL.val (v := .int .i64 (pe : Int)) trivial rfl rfl (fun ρ w E H => ex_extract E rfl rfl rfl) ?_
    iterate 2 refine SxL.val trivial rfl rfl (fun ρ w E H => ex_assign E rfl rfl) ?_
    refine SxL.nil (SxN.then_ (SxC.seq (SxC.seq (SxC.region ?_))))
    refine SxL.val trivial rfl rfl (fun ρ w E H => ex_move E rfl rfl) ?_
    refine SxL.valB trivial rfl rfl (fun ρ w E H => ex_cmp E rfl rfl rfl rfl rfl) fun c22 hc22 => ?_
    refine SxL.nil (SxN.then_ ?_)
    cases c22
    · refine SxC.condF rfl (SxC.skip (SxN.then_ (SxC.seq (SxC.seq ?_))))
      refine SxC.hp (fun W H => H.knowNet ⟨(fun g hg => by rw [List.mem_singleton.1 hg]; exact hg1), trivial⟩ hn) ?_
      refine SxC.region ?_
      refine SxL.val trivial rfl rfl (fun ρ w E H => ex_move E rfl rfl) ?_
      refine SxL.val (v := .pointer (some ⟨g, 0, none⟩)) trivial rfl rfl (fun ρ w E H => ex_nilCheck E rfl rfl) ?_
      refine SxL.val (v := .pointer (some ⟨g, 0, none⟩)) trivial rfl rfl (fun ρ w E H => ex_field E rfl fa_palaver_net_Net_0 rfl rfl) ?_
      refine SxL.val trivial rfl rfl (fun ρ w E H => ex_load1 E (H.get (i := 0) rfl) rfl rfl Tryz.underlying128 rfl rfl) ?_
      refine SxL.val (v := .int .i64 (bag.length : Int)) trivial rfl rfl (fun ρ w E H => ex_lenS E rfl Tryz.underlying128 rfl) ?_
      refine SxL.valB trivial rfl rfl (fun ρ w E H => ex_cmp E rfl rfl rfl rfl rfl) fun c29 hc29 => ?_
      refine SxL.nil (SxN.then_ ?_)
      cases c29
      · refine SxC.condF rfl (SxC.skip (SxN.then_ (SxC.seq ?_)))
        refine SxC.drawnK ((Value.slice Ab bag.length cbb).ownBlock.toList ++ [g, gm]) [2, 3] (by kernel_rfl) rfl ⟨(fun g hg => by rw [List.mem_singleton.1 hg]; exact .inl (by simp)), (fun g hg => (hv0.in_ g hg).imp (fun h => by simp only [List.mem_append]; simp [h]) id), (fun g hg => by rw [List.mem_singleton.1 hg]; exact .inl (by simp)), (fun g hg => by rw [List.mem_singleton.1 hg]; exact .inr hg1), trivial⟩ ?_
        refine SxA.take (i := 0) rfl (by kernel_rfl) (by kernel_rfl) (by kernel_rfl) rfl rfl (fun _ _ _ h => h) trivial (fun ρ w E H => ex_move E rfl rfl) ?_
        refine SxA.take (i := 1) rfl (by kernel_rfl) (by kernel_rfl) (by kernel_rfl) rfl rfl (fun _ _ _ h => h) trivial (fun ρ w E H => ex_move E rfl rfl) ?_
        refine SxA.take (i := 2) (v := .pointer (some ⟨g, 0, none⟩)) rfl (by kernel_rfl) (by kernel_rfl) (by kernel_rfl) rfl rfl (fun _ _ _ h => h) trivial (fun ρ w E H => ex_nilCheck E rfl rfl) ?_
        refine SxA.take (i := 3) (v := .pointer (some ⟨g, 0, none⟩)) rfl (by kernel_rfl) (by kernel_rfl) (by kernel_rfl) rfl rfl (fun _ _ _ h => h) trivial (fun ρ w E H => ex_field E rfl fa_palaver_net_Net_0 rfl rfl) ?_
        refine SxA.take (i := 5) (v := .pointer (some ⟨g1, 0, none⟩)) rfl (by kernel_rfl) (by kernel_rfl) (by kernel_rfl) rfl rfl (fun _ _ _ h => h) trivial (fun ρ w E H => ex_field E rfl fa_palaver_api_Letter_0 rfl rfl) ?_
        refine SxA.take (i := 6) rfl (by kernel_rfl) (by kernel_rfl) (by kernel_rfl) rfl rfl (fun _ _ _ h => h) trivial (fun ρ w E H => ex_load1 E (H.get (i := 1) rfl) rfl rfl Tryz.underlying5 rfl rfl) ?_
        refine SxA.take (i := 7) (v := .pointer (some ⟨g1, 1, none⟩)) rfl (by kernel_rfl) (by kernel_rfl) (by kernel_rfl) rfl rfl (fun _ _ _ h => h) trivial (fun ρ w E H => ex_field E rfl fa_palaver_api_Letter_1 rfl rfl) ?_
        refine SxA.take (i := 8) rfl (by kernel_rfl) (by kernel_rfl) (by kernel_rfl) rfl rfl (fun _ _ _ h => h) trivial (fun ρ w E H => ex_load1 E (H.get (i := 1) rfl) rfl rfl Tryz.underlying5 rfl rfl) ?_
        refine SxA.take (i := 9) rfl (by kernel_rfl) (by kernel_rfl) (by kernel_rfl) rfl rfl (fun _ _ _ h => h) trivial (fun ρ w E H => ex_build (cs := [.int .u8 (f : Int), .int .u8 (t : Int)]) E rfl rfl (by kernel_rfl)) ?_
        refine SxA.take (i := 10) rfl (by kernel_rfl) (by kernel_rfl) (by kernel_rfl) rfl rfl (fun _ _ _ h => h) trivial (fun ρ w E H => ex_move E rfl rfl) ?_
        refine SxA.take (i := 11) rfl (by kernel_rfl) (by kernel_rfl) (by kernel_rfl) rfl rfl (fun _ _ _ h => h) trivial (fun ρ w E H => ex_build (cs := [.int .u8 (f : Int), .int .u8 (t : Int), .string ⟨ps.toArray⟩]) E rfl rfl (by kernel_rfl)) ?_
        refine SxA.ready [4, 12] (by kernel_rfl) (by simp) ⟨?_, ?_, trivial⟩
        · refine SxO.val rfl trivial rfl rfl (fun ρ w E H => ex_load1 E (H.get (i := 0) rfl) rfl rfl Tryz.underlying128 rfl rfl) ?_
          refine SxA.ready [12] (by kernel_rfl) (by simp) ⟨?_, trivial⟩
          refine SxO.newS (cs := [.int .u8 (f : Int), .int .u8 (t : Int), .string ⟨ps.toArray⟩]) rfl trivial rfl rfl (fun ρ w E H => ex_buildSlice E rfl rfl Tryz.underlying128 sz_palaver_net_parcel zr_palaver_net_parcel rfl rfl (by kernel_rfl)) (fun g2 w hg2 H => H.ks ((Value.slice Ab bag.length cbb).ownBlock.toList ++ [g, gm]) [3, 4] rfl ⟨(fun g hg => by rw [List.mem_singleton.1 hg]; exact .inr hg2), (fun g hg => by rw [List.mem_singleton.1 hg]; exact .inl (by simp)), (fun g hg => (hv0.in_ g hg).imp (fun h => by simp only [List.mem_append]; simp [h]) id), (fun g hg => by rw [List.mem_singleton.1 hg]; exact .inl (by simp)), (fun g hg => by rw [List.mem_singleton.1 hg]; exact .inr hg1), trivial⟩) fun g2 hg2 => ?_
          refine SxA.ready [13] (by kernel_rfl) (by simp) ⟨?_, trivial⟩
          refine SxO.append (i := 2) (news := [.int .u8 (f : Int), .int .u8 (t : Int), .string ⟨ps.toArray⟩]) rfl trivial rfl rfl rfl Tryz.underlying128 nf_palaver_net_parcel rfl rfl rfl rfl hv0 rfl (fun w H => reads_cell H (i := 0) rfl rfl) (one_list rfl) (by unfold maxLen; omega) (by omega) hbase (fun A43 k43 w hv43 H => H.ks ((Value.slice Ab bag.length cbb).ownBlock.toList ++ [g, gm]) [3, 4] rfl ⟨(fun g hg => by rw [List.mem_singleton.1 hg]; exact .inr hg2), (fun g hg => by rw [List.mem_singleton.1 hg]; exact .inl (by simp)), (fun g hg => (hv43.in_ g hg).imp (fun h => by simp only [List.mem_append]; simp [h]) id), (fun g hg => by rw [List.mem_singleton.1 hg]; exact .inl (by simp)), (fun g hg => by rw [List.mem_singleton.1 hg]; exact .inr hg1), trivial⟩) fun A43 k43 hv43 => ?_
          refine SxA.take (i := 14) (v := .pointer (some ⟨g, 0, none⟩)) rfl (by kernel_rfl) (by kernel_rfl) (by kernel_rfl) rfl rfl (fun _ _ _ h => h) trivial (fun ρ w E H => ex_nilCheck E rfl rfl) ?_
          refine SxA.take (i := 15) (v := .pointer (some ⟨g, 0, none⟩)) rfl (by kernel_rfl) (by kernel_rfl) (by kernel_rfl) rfl rfl (fun _ _ _ h => h) trivial (fun ρ w E H => ex_field E rfl fa_palaver_net_Net_0 rfl rfl) ?_
          refine SxA.ready [16] (by kernel_rfl) (by simp) ⟨?_, trivial⟩
          refine SxO.storeX (j := 1) [.slice A43 (bag.length + 1) k43, .map (some gm)] rfl trivial rfl rfl rfl rfl rfl sz_net_parcel rfl rfl rfl rfl (fun w H => H.ks ((Value.slice Ab bag.length cbb).ownBlock.toList ++ [g, gm]) [3, 4] rfl ⟨(fun g hg => by rw [List.mem_singleton.1 hg]; exact .inr hg2), (fun g hg => by rw [List.mem_singleton.1 hg]; exact .inl (by simp)), (fun g hg => (hv43.in_ g hg).imp (fun h => by simp only [List.mem_append]; simp [h]) id), (fun g hg => by rw [List.mem_singleton.1 hg]; exact .inl (by simp)), (fun g hg => by rw [List.mem_singleton.1 hg]; exact .inr hg1), trivial⟩) ?_
          refine SxA.done (by kernel_rfl) ?_
          refine SxN.then_ (SxC.seq ?_)
          refine SxC.hp (fun W H => H.re (i := 2) rfl (rowX (Value.slice Ab bag.length cbb).ownBlock.toList base 134 3 (.slice A43 (bag.length + 1) k43) ((bag ++ [(⟨f, t, ps⟩ : Pa)]).length) ((bag ++ [(⟨f, t, ps⟩ : Pa)]).flatMap paL)) (rowX_loc _ _ _ _ _ _ _) rfl (fun h => own_as h (by simp) (by simp [paL]))) ?_
          refine SxC.region ?_
          refine SxL.val trivial rfl rfl (fun ρ w E H => ex_assign E rfl rfl) ?_
          refine SxL.nil (SxN.then_ (SxC.ret ?_))
          refine SxX.done (.int .i64 0) (fun a w K H => res1 K rfl rfl) (fun w H => ?_)
          have hq : sendN bag f t ⟨mk, mn, mr, mb, ms, mo, mv, vl, il, ⟨ca, cb, ck, cs, ct, cu, cz⟩, mc, mt⟩ = (bag ++ [⟨f, t, ps⟩], 0) := by
            unfold sendN; rw [if_pos hc13, hpm, if_neg (by have h := hc22; simp [cmpB] at h; simpa using h), if_neg (by have h := hc29; simp [cmpB] at h; omega)]
          rw [hq]
          exact ⟨rfl, ⟨_, ⟨H.get (i := 1) rfl, H.get (i := 2) rfl, H.get (i := 3) rfl⟩, hv43, H.toOuts _ ⟨(fun b hb => by rw [List.mem_singleton.1 hb]; exact .inr hg2), (fun b hb => by rw [List.mem_singleton.1 hb]; exact .inl (by simp)), (fun b hb => (hv43.in_ b hb).imp (fun h => List.mem_cons_of_mem _ (List.mem_cons_of_mem _ h)) id), (fun b hb => .inl (by rw [List.mem_singleton.1 hb]; simp)), (fun b hb => by rw [List.mem_singleton.1 hb]; exact .inr hg1), trivial⟩⟩⟩
        · refine SxO.newS (cs := [.int .u8 (f : Int), .int .u8 (t : Int), .string ⟨ps.toArray⟩]) rfl trivial rfl rfl (fun ρ w E H => ex_buildSlice E rfl rfl Tryz.underlying128 sz_palaver_net_parcel zr_palaver_net_parcel rfl rfl (by kernel_rfl)) (fun g3 w hg3 H => H.ks ((Value.slice Ab bag.length cbb).ownBlock.toList ++ [g, gm]) [3, 4] rfl ⟨(fun g hg => by rw [List.mem_singleton.1 hg]; exact .inr hg3), (fun g hg => by rw [List.mem_singleton.1 hg]; exact .inl (by simp)), (fun g hg => (hv0.in_ g hg).imp (fun h => by simp only [List.mem_append]; simp [h]) id), (fun g hg => by rw [List.mem_singleton.1 hg]; exact .inl (by simp)), (fun g hg => by rw [List.mem_singleton.1 hg]; exact .inr hg1), trivial⟩) fun g3 hg3 => ?_
          refine SxA.ready [4] (by kernel_rfl) (by simp) ⟨?_, trivial⟩
          refine SxO.val rfl trivial rfl rfl (fun ρ w E H => ex_load1 E (H.get (i := 1) rfl) rfl rfl Tryz.underlying128 rfl rfl) ?_
          refine SxA.ready [13] (by kernel_rfl) (by simp) ⟨?_, trivial⟩
          refine SxO.append (i := 2) (news := [.int .u8 (f : Int), .int .u8 (t : Int), .string ⟨ps.toArray⟩]) rfl trivial rfl rfl rfl Tryz.underlying128 nf_palaver_net_parcel rfl rfl rfl rfl hv0 rfl (fun w H => reads_cell H (i := 0) rfl rfl) (one_list rfl) (by unfold maxLen; omega) (by omega) hbase (fun A43 k43 w hv43 H => H.ks ((Value.slice Ab bag.length cbb).ownBlock.toList ++ [g, gm]) [3, 4] rfl ⟨(fun g hg => by rw [List.mem_singleton.1 hg]; exact .inr hg3), (fun g hg => by rw [List.mem_singleton.1 hg]; exact .inl (by simp)), (fun g hg => (hv43.in_ g hg).imp (fun h => by simp only [List.mem_append]; simp [h]) id), (fun g hg => by rw [List.mem_singleton.1 hg]; exact .inl (by simp)), (fun g hg => by rw [List.mem_singleton.1 hg]; exact .inr hg1), trivial⟩) fun A43 k43 hv43 => ?_
          refine SxA.take (i := 14) (v := .pointer (some ⟨g, 0, none⟩)) rfl (by kernel_rfl) (by kernel_rfl) (by kernel_rfl) rfl rfl (fun _ _ _ h => h) trivial (fun ρ w E H => ex_nilCheck E rfl rfl) ?_
          refine SxA.take (i := 15) (v := .pointer (some ⟨g, 0, none⟩)) rfl (by kernel_rfl) (by kernel_rfl) (by kernel_rfl) rfl rfl (fun _ _ _ h => h) trivial (fun ρ w E H => ex_field E rfl fa_palaver_net_Net_0 rfl rfl) ?_
          refine SxA.ready [16] (by kernel_rfl) (by simp) ⟨?_, trivial⟩
          refine SxO.storeX (j := 1) [.slice A43 (bag.length + 1) k43, .map (some gm)] rfl trivial rfl rfl rfl rfl rfl sz_net_parcel rfl rfl rfl rfl (fun w H => H.ks ((Value.slice Ab bag.length cbb).ownBlock.toList ++ [g, gm]) [3, 4] rfl ⟨(fun g hg => by rw [List.mem_singleton.1 hg]; exact .inr hg3), (fun g hg => by rw [List.mem_singleton.1 hg]; exact .inl (by simp)), (fun g hg => (hv43.in_ g hg).imp (fun h => by simp only [List.mem_append]; simp [h]) id), (fun g hg => by rw [List.mem_singleton.1 hg]; exact .inl (by simp)), (fun g hg => by rw [List.mem_singleton.1 hg]; exact .inr hg1), trivial⟩) ?_
          refine SxA.done (by kernel_rfl) ?_
          refine SxN.then_ (SxC.seq ?_)
          refine SxC.hp (fun W H => H.re (i := 2) rfl (rowX (Value.slice Ab bag.length cbb).ownBlock.toList base 134 3 (.slice A43 (bag.length + 1) k43) ((bag ++ [(⟨f, t, ps⟩ : Pa)]).length) ((bag ++ [(⟨f, t, ps⟩ : Pa)]).flatMap paL)) (rowX_loc _ _ _ _ _ _ _) rfl (fun h => own_as h (by simp) (by simp [paL]))) ?_
          refine SxC.region ?_
          refine SxL.val trivial rfl rfl (fun ρ w E H => ex_assign E rfl rfl) ?_
          refine SxL.nil (SxN.then_ (SxC.ret ?_))
          refine SxX.done (.int .i64 0) (fun a w K H => res1 K rfl rfl) (fun w H => ?_)
          have hq : sendN bag f t ⟨mk, mn, mr, mb, ms, mo, mv, vl, il, ⟨ca, cb, ck, cs, ct, cu, cz⟩, mc, mt⟩ = (bag ++ [⟨f, t, ps⟩], 0) := by
            unfold sendN; rw [if_pos hc13, hpm, if_neg (by have h := hc22; simp [cmpB] at h; simpa using h), if_neg (by have h := hc29; simp [cmpB] at h; omega)]
          rw [hq]
          exact ⟨rfl, ⟨_, ⟨H.get (i := 1) rfl, H.get (i := 2) rfl, H.get (i := 3) rfl⟩, hv43, H.toOuts _ ⟨(fun b hb => by rw [List.mem_singleton.1 hb]; exact .inr hg3), (fun b hb => by rw [List.mem_singleton.1 hb]; exact .inl (by simp)), (fun b hb => (hv43.in_ b hb).imp (fun h => List.mem_cons_of_mem _ (List.mem_cons_of_mem _ h)) id), (fun b hb => .inl (by rw [List.mem_singleton.1 hb]; simp)), (fun b hb => by rw [List.mem_singleton.1 hb]; exact .inr hg1), trivial⟩⟩⟩
      · refine SxC.condT rfl (SxC.seq (SxC.region ?_))
        refine SxL.val trivial rfl rfl (fun ρ w E H => ex_assign E rfl rfl) ?_
        refine SxL.nil (SxN.then_ (SxC.ret (SxX.thenR ?_)))
        refine SxX.done (.int .i64 7) (fun a w K H => res1 K rfl rfl) (fun w H => ?_)
        have hq : sendN bag f t ⟨mk, mn, mr, mb, ms, mo, mv, vl, il, ⟨ca, cb, ck, cs, ct, cu, cz⟩, mc, mt⟩ = (bag, 7) := by
          unfold sendN; rw [if_pos hc13, hpm, if_neg (by have h := hc22; simp [cmpB] at h; simpa using h), if_pos (by have h := hc29; simp [cmpB] at h; omega)]
        rw [hq]
        exact ⟨rfl, ⟨_, ⟨H.get (i := 0) rfl, H.get (i := 1) rfl, H.get (i := 2) rfl⟩, hv0, H.toOuts _ ⟨(fun b hb => by rw [List.mem_singleton.1 hb]; exact .inl (by simp)), (fun b hb => (hv0.in_ b hb).imp (fun h => List.mem_cons_of_mem _ (List.mem_cons_of_mem _ h)) id), (fun b hb => .inl (by rw [List.mem_singleton.1 hb]; simp)), (fun b hb => by rw [List.mem_singleton.1 hb]; exact .inr hg1), trivial⟩⟩⟩
    · refine SxC.condT rfl (SxC.seq (SxC.region ?_))
      refine SxL.val trivial rfl rfl (fun ρ w E H => ex_move E rfl rfl) ?_
      refine SxL.val trivial rfl rfl (fun ρ w E H => ex_assign E rfl rfl) ?_
      refine SxL.nil (SxN.then_ (SxC.ret (SxX.thenR ?_)))
      refine SxX.done (.int .i64 (pe : Int)) (fun a w K H => res1 K rfl rfl) (fun w H => ?_)
      have hq : sendN bag f t ⟨mk, mn, mr, mb, ms, mo, mv, vl, il, ⟨ca, cb, ck, cs, ct, cu, cz⟩, mc, mt⟩ = (bag, pe) := by unfold sendN; rw [if_pos hc13, hpm, if_pos (by have h := hc22; simp [cmpB] at h; simpa using h)]
      rw [hq]
      exact ⟨rfl, netTo_below hn (H.toBelow ⟨(fun g hg => by rw [List.mem_singleton.1 hg]; exact hg1), trivial⟩)⟩

end Go.Proofs.YteiaiilfekojfaaGreat.Net
end
section
set_option linter.unusedVariables false
set_option linter.unusedSimpArgs false
namespace Go.Proofs.YteiaiilfekojfaaGreat.Msg
open Go.RowKit Wire Sx DrawInv
def rdl (r : Rd) : List Value := [.int .i64 (r.err : Int), .string ⟨r.rest.toArray⟩]
theorem call_of {w0 : World} {L : List Ft} (l : List UInt8) : ∀ w, Hp w0 L w → Calls Tryz.prog 57 #[.string ⟨l.toArray⟩] w fun E w' => ∃ s : Nat, E = .returned (.pointer (some ⟨s, 0, none⟩)) ∧ (True ∧ ∀ g ∈ (cell s 157 (rdl ⟨0, l⟩)).fp, w0.heap.size ≤ g) ∧ Hp w0 (cell s 157 (rdl ⟨0, l⟩) :: L) w' :=
  callNew (fun s : Nat => .pointer (some ⟨s, 0, none⟩)) (fun _ => True) (fun s => cell s 157 (rdl ⟨0, l⟩)) (fun _ => cell_loc _ _ _) fun w H => (of_any l w).mono fun E w' ⟨h1, h2⟩ => by
    subst h2
    have hb : Blk (w.alloc (.cells (rdC ⟨0, l⟩) 157)) w.heap.size 157 (rdC ⟨0, l⟩) := Blk.new w _ _
    exact ⟨w.heap.size, h1, trivial, fun b hm => by rw [List.mem_singleton.1 hm]; exact ⟨Nat.le_refl _, hb.lt⟩, hb, (Below.refl _ w).alloc (Nat.le_refl _) _⟩
theorem call_take {w0 : World} {L R : List Ft} {P : Program} {f : Nat} {args : Array Value} {x x' : Ms × Rd} {V I : Value} {base gr g : Nat} (is : List Nat) (hp : picks L is = some (cell gr 157 (rdl x.2) :: madeF base g x.1 V I :: R)) (hn : is.Nodup) (hfr : Frs w0 is 0 L)
    (hgr : w0.heap.size ≤ gr) (hg : w0.heap.size ≤ g) (hV : OwnIn w0 [] V) (hI : OwnIn w0 [] I)
    (hc : ∀ w, Hp w0 (cell gr 157 (rdl x.2) :: madeF base g x.1 V I :: R) w → gr ≠ g → Calls P f args w fun e w' => ∃ V' I', e = .returned (.tuple #[]) ∧ Blk w' gr 157 (rdC x'.2) ∧ Made base g x'.1 V' I' w' ∧ (OwnIn w V.ownBlock.toList V' ∧ OwnIn w I.ownBlock.toList I') ∧ Outs ([gr, g] ++ (V.ownBlock.toList ++ I.ownBlock.toList)) w w') :
    ∀ w, Hp w0 L w → Calls P f args w fun E w' => ∃ V' I', E = .returned (.tuple #[]) ∧ (OwnIn w0 [] V' ∧ OwnIn w0 [] I') ∧ Hp w0 (cell gr 157 (rdl x'.2) :: madeF base g x'.1 V' I' :: R) w' := fun w H0 => by
  have H := H0.pick is hp hn hfr
  have hne : gr ≠ g := fun e => (List.pairwise_cons.1 H.dj).1 _ (List.mem_cons_self ..) gr (List.mem_singleton.2 rfl) (by rw [e]; exact List.mem_cons_self ..)
  refine (hc w H hne).mono fun E w' ⟨V', I', h1, h2, h3, h4, h5⟩ => ⟨V', I', h1, ⟨own_trans H.os.size hV h4.1, own_trans H.os.size hI h4.2⟩, ?_⟩
  have d1 := own_blk h3.2.1 h2 (by decide)
  have d2 := own_blk h3.2.2 h2 (by decide)
  have hlt : gr < w'.heap.size := Blk.lt h2
  refine H.two _ _ (h5.mono fun b hb _ => ?_) (cell_loc _ _ _) (madeF_loc _ _ _ _ _) (fun b hb => ?_) (fun b hb => ?_) (fun b hb hb2 => ?_) (fun b hb => .inl hb) (fun b hb => .inr (made_fresh hg hV hI b hb)) h2 h3
  · simp only [List.mem_append, List.mem_cons, List.not_mem_nil, or_false, cell, madeF] at hb ⊢
    rcases hb with (h | h) | h | h
    · exact .inl h
    · exact .inr (.inl h)
    · exact .inr (.inr (.inl h))
    · exact .inr (.inr (.inr h))
  · rw [List.mem_singleton.1 hb]
    exact ⟨hlt, .inl (List.mem_singleton.2 rfl)⟩
  · rcases List.mem_cons.1 hb with rfl | hb
    · exact ⟨Blk.lt h3.1, .inl (List.mem_cons_self ..)⟩
    · rcases List.mem_append.1 hb with hb | hb
      · exact ⟨(own_lt h3.2.1 b hb).2, (h4.1 b hb).imp (fun h => List.mem_cons_of_mem _ (List.mem_append.2 (.inl h))) id⟩
      · exact ⟨(own_lt h3.2.2 b hb).2, (h4.2 b hb).imp (fun h => List.mem_cons_of_mem _ (List.mem_append.2 (.inr h))) id⟩
  · rw [List.mem_singleton.1 hb] at hb2
    rcases List.mem_cons.1 hb2 with h | h
    · exact hne h
    · rcases List.mem_append.1 h with h | h
      · exact d1 h
      · exact d2 h
theorem ftake_p {s : List UInt8} {p : List UInt8 × Nat × Nat} (hp : Frame.takeF s = p) (hs : s.length ≤ 100000) (w : World) : Calls Tryz.prog 56 #[.string ⟨s.toArray⟩] w fun e w' => e = .returned (.tuple #[.string ⟨p.1.toArray⟩, .int .i64 (p.2.1 : Int), .int .i64 (p.2.2 : Int)]) ∧ Below w.heap.size w w' := by
  subst hp
  exact Frame.ftake_any s (by omega) w
theorem takeF_len (s : List UInt8) : (Frame.takeF s).1.length ≤ 65536 := by
  unfold Frame.takeF
  dsimp only
  split
  · simp
  · split
    · simp
    · split
      · simp
      · split
        · simp
        · rename_i h _ _
          have : ¬ 65536 < (Rd.num ⟨0, s⟩).1 := fun h' => h (.inr h')
          show (List.take (Rd.num ⟨0, s⟩).1 _).length ≤ 65536
          rw [List.length_take]
          omega
theorem takeM_1 {s fi : List UInt8} {fn fe : Nat} (hF : Frame.takeF s = (fi, fn, fe)) (h : fe ≠ 0) : takeM s = (ms0 0, fe) := by
  unfold takeM; rw [hF]; dsimp only; rw [if_pos h]
theorem takeM_2 {s fi : List UInt8} {fn fe : Nat} (hF : Frame.takeF s = (fi, fn, fe)) (h : fe = 0) (hn : fn ≠ s.length) : takeM s = (ms0 0, 4) := by
  unfold takeM; rw [hF]; dsimp only; rw [if_neg (by omega), if_pos hn]
theorem takeM_3 {s fi : List UInt8} {fn fe : Nat} {k : Nat × Rd} {x : Ms × Rd} (hF : Frame.takeF s = (fi, fn, fe)) (h : fe = 0) (hn : fn = s.length) (hk : Rd.byte ⟨0, fi⟩ = k) (hx : x = taken (partsOf k.1) k.1 k.2) : takeM s = if x.2.end_.err = 0 ∧ checkB x.1 = true then (x.1, 0) else (ms0 0, 4) := by
  unfold takeM; rw [hF]; dsimp only; rw [if_neg (by omega), if_neg (by omega), hk, ← hx]
/-- What Take hands back: the message; its lists are rows of their own. -/
def TakeRet (s : List UInt8) (w : World) (e : Ending) (w' : World) : Prop := ∃ V I, e = .returned (.tuple #[.agg (msL (takeM s).1 V I).toArray, .int .i64 ((takeM s).2 : Int)]) ∧ w'.ownsRow w.heap.size 92 4 V (takeM s).1.votes.length ((takeM s).1.votes.flatMap voL) ∧ w'.ownsRow w.heap.size 94 2 I (takeM s).1.items.length ((takeM s).1.items.flatMap imL) ∧ Below w.heap.size w w'
theorem taken_snoc {k : Nat} {p : Pt} {kk : Nat} {r : Rd} (h : (partsOf kk)[k]? = some p) : taken ((partsOf kk).take (k + 1)) kk r = p.take (taken ((partsOf kk).take k) kk r) := by
  unfold taken; rw [take_snoc h, List.foldl_append]; rfl
end Go.Proofs.YteiaiilfekojfaaGreat.Msg
end
section
set_option linter.unusedVariables false
set_option linter.unusedSimpArgs false
namespace Go.Proofs.YteiaiilfekojfaaGreat.Msg
open Go.RowKit Wire

theorem str_fwd (s : List UInt8) (m : Nat) (h : s.length ≤ m) (hm : m < 4611686018427387904) (rest : List UInt8) : Rd.str ⟨0, strB s ++ rest⟩ (m : Int) = (s, ⟨0, rest⟩) := by
  have e : strB s ++ rest = numB s.length ++ (s ++ rest) := by unfold strB; simp
  have hmm : (max (m : Int) 0).toNat + 1 = m + 1 := by omega
  unfold Rd.str
  rw [e, hmm, Cmd.below_put_back s.length (m + 1) (by omega) (by omega)]
  simp only
  rw [Wire.take_ok _ _ (by rw [List.length_append]; omega)]
  simp
theorem str_fwd65 (s : List UInt8) (h : s.length ≤ 65536) (rest : List UInt8) : Rd.str ⟨0, strB s ++ rest⟩ 65536 = (s, ⟨0, rest⟩) := by
  have h := str_fwd s 65536 h (by decide) rest
  rw [show ((65536 : Nat) : Int) = 65536 from rfl] at h
  exact h
theorem str_fwd64 (s : List UInt8) (h : s.length ≤ 64) (rest : List UInt8) : Rd.str ⟨0, strB s ++ rest⟩ 64 = (s, ⟨0, rest⟩) := by
  have h := str_fwd s 64 h (by decide) rest
  rw [show ((64 : Nat) : Int) = 64 from rfl] at h
  exact h
theorem byte_fwd (x : Nat) (h : x < 256) (rest : List UInt8) : Rd.byte ⟨0, UInt8.ofNat x :: rest⟩ = (x, ⟨0, rest⟩) := Cmd.byte_nat x h rest
theorem good_parts {n r : Nat} (h : goodB n r = true) : Bal.mayB ⟨n, r⟩ = true := by unfold goodB at h; rw [Bool.and_eq_true] at h; exact h.1
theorem bal_fwd (n r : Nat) (hn : n < 18446744073709551616) (hr : r < 256) (h : goodB n r = true) (rest : List UInt8) : Bal.takeB ⟨0, Bal.balB ⟨n, r⟩ ++ rest⟩ = (⟨n, r⟩, ⟨0, rest⟩) := by
  have e : Bal.balB ⟨n, r⟩ ++ rest = numB n ++ (UInt8.ofNat r :: rest) := by simp [Bal.balB]
  have e1 := num_put_back n hn (UInt8.ofNat r :: rest)
  have e2 := byte_fwd r hr rest
  unfold Bal.takeB
  rw [e, e1]
  dsimp only
  rw [e2]
  dsimp only
  rw [if_pos (good_parts h), if_pos rfl]
theorem tkV_fwd (rest : List UInt8) : ∀ (l acc : List Vo), (∀ v ∈ l, v.Fits ∧ v.value.length ≤ 65536 ∧ goodB v.n v.r = true) → tkV l.length ⟨0, l.flatMap voB ++ rest⟩ acc = (⟨0, rest⟩, acc ++ l)
  | [], acc, _ => by simp [tkV]
  | v :: l, acc, h => by
    obtain ⟨hf, hs, hg⟩ := h v (List.mem_cons_self ..)
    have e : (v :: l).flatMap voB ++ rest = numB v.slot ++ (Bal.balB ⟨v.n, v.r⟩ ++ (strB v.value ++ (l.flatMap voB ++ rest))) := by simp [voB]
    have e1 := num_put_back v.slot hf.h1 (Bal.balB ⟨v.n, v.r⟩ ++ (strB v.value ++ (l.flatMap voB ++ rest)))
    have e2 := bal_fwd v.n v.r hf.h2 hf.h3 hg (strB v.value ++ (l.flatMap voB ++ rest))
    have e3 := str_fwd65 v.value hs (l.flatMap voB ++ rest)
    rw [e, List.length_cons, tkV_step _ _ _ (by omega) rfl, e1]
    simp only [e2, e3, Nat.add_sub_cancel]
    rw [tkV_fwd rest l _ fun x hx => h x (List.mem_cons_of_mem _ hx)]
    simp
theorem tkI_fwd (rest : List UInt8) : ∀ (l acc : List Im), (∀ v ∈ l, v.slot < 18446744073709551616 ∧ v.value.length ≤ 65536) → tkI l.length ⟨0, l.flatMap imB ++ rest⟩ acc = (⟨0, rest⟩, acc ++ l)
  | [], acc, _ => by simp [tkI]
  | v :: l, acc, h => by
    obtain ⟨hf, hs⟩ := h v (List.mem_cons_self ..)
    have e : (v :: l).flatMap imB ++ rest = numB v.slot ++ (strB v.value ++ (l.flatMap imB ++ rest)) := by simp [imB]
    have e1 := num_put_back v.slot hf (strB v.value ++ (l.flatMap imB ++ rest))
    have e3 := str_fwd65 v.value hs (l.flatMap imB ++ rest)
    rw [e, List.length_cons, tkI_step _ _ _ (by omega) rfl, e1]
    simp only [e3, Nat.add_sub_cancel]
    rw [tkI_fwd rest l _ fun x hx => h x (List.mem_cons_of_mem _ hx)]
    simp
theorem rise_good : ∀ (last : Nat) (l : List Vo), riseV last l = true → ∀ v ∈ l, goodB v.n v.r = true
  | _, [], _, v, hv => by cases hv
  | last, x :: l, h, v, hv => by
    unfold riseV at h
    simp only [Bool.and_eq_true] at h
    rcases List.mem_cons.1 hv with rfl | hv
    · exact h.2.2.1
    · exact rise_good x.slot l h.2.2.2 v hv
/-- What a part has put, it takes. -/
theorem part_fwd (p : Pt) (a m : Ms) (rest : List UInt8) (hf : m.Fits) (hm : p.may m = true) (hv : p = .votes → a.votes = []) (hi : p = .items → a.items = []) (h1 : m.value.length ≤ 65536) (h4 : ∀ v ∈ m.votes, v.value.length ≤ 65536) (h5 : ∀ x ∈ m.items, x.value.length ≤ 65536) :
    p.take (a, ⟨0, p.put m ++ rest⟩) = (p.move a m, ⟨0, rest⟩) := by
  cases p with
  | cmd => have e := Cmd.takeC_put m.cmd hm hf.h9 rest; simp only [Pt.take, Pt.put, Pt.move, e]
  | name =>
    have e1 := byte_fwd m.cmd.client hf.h9.h1 (numB m.cmd.seq ++ rest)
    have e2 := Cmd.below_put_back m.cmd.seq 4294967296 hf.h9.h2 (by have := hf.h9.h2; omega) rest
    simp only [Pt.take, Pt.put, Pt.move, List.cons_append, e1, e2]
  | reply =>
    have hm : (decide (m.code ≤ 3) && decide (m.text.length ≤ 64)) = true := hm
    rw [Bool.and_eq_true] at hm
    have e1 := byte_fwd m.code hf.h10 (strB m.text ++ rest)
    have e2 := str_fwd64 m.text (of_decide_eq_true hm.2) rest
    simp only [Pt.take, Pt.put, Pt.move, List.cons_append, e1, e2]
  | node =>
    have e1 := byte_fwd m.node hf.h6 rest
    simp only [Pt.take, Pt.put, Pt.move, List.cons_append, List.nil_append, e1]
  | turn => have e := bal_fwd m.bn m.br hf.h2 hf.h3 hm rest; simp only [Pt.take, Pt.put, Pt.move, e]
  | floor => have e := num_put_back m.base hf.h4 rest; simp only [Pt.take, Pt.put, Pt.move, e]
  | slot l => have e := num_put_back m.slot hf.h5 rest; simp only [Pt.take, Pt.put, Pt.move, e]
  | value => have e := str_fwd65 m.value h1 rest; simp only [Pt.take, Pt.put, Pt.move, e]
  | votes =>
    have hlen : m.votes.length < 18446744073709551616 ∨ ¬ m.votes.length < 18446744073709551616 := Decidable.em _
    rcases hlen with hlen | hlen
    · have e1 := num_put_back m.votes.length hlen (m.votes.flatMap voB ++ rest)
      have e2 := tkV_fwd rest m.votes a.votes fun v h => ⟨hf.h7 v h, h4 v h, rise_good 0 _ hm v h⟩
      rw [hv rfl] at e2
      simp only [Pt.take, Pt.put, Pt.move, List.append_assoc, e1, hv rfl, e2, List.nil_append]
    · exfalso
      -- a rising row below 2^62 has fewer than 2^62 members
      have hr : ∀ (l : List Vo) (last : Nat), riseV last l = true → last + l.length ≤ 4611686018427387904 ∨ l = [] := by
        intro l
        induction l with
        | nil => intro last _; exact .inr rfl
        | cons x l ih =>
          intro last h
          unfold riseV at h
          simp only [Bool.and_eq_true, decide_eq_true_eq] at h
          obtain ⟨g1, g2, _, g4⟩ := h
          left
          rcases ih x.slot g4 with g | g
          · rw [List.length_cons]; omega
          · rw [g]; simp; omega
      rcases hr m.votes 0 hm with g | g
      · omega
      · rw [g] at hlen; simp at hlen
  | items =>
    have hm : (riseI 0 m.items && decide (0 < m.items.length)) = true := hm
    rw [Bool.and_eq_true] at hm
    have hr : ∀ (l : List Im) (last : Nat), riseI last l = true → last + l.length ≤ 4611686018427387904 ∨ l = [] := by
      intro l
      induction l with
      | nil => intro last _; exact .inr rfl
      | cons x l ih =>
        intro last h
        unfold riseI at h
        simp only [Bool.and_eq_true, decide_eq_true_eq] at h
        obtain ⟨g1, g2, g4⟩ := h
        left
        rcases ih x.slot g4 with g | g
        · rw [List.length_cons]; omega
        · rw [g]; simp; omega
    have hlen : m.items.length < 18446744073709551616 := by
      rcases hr m.items 0 hm.1 with g | g
      · omega
      · rw [g]; decide
    have e1 := num_put_back m.items.length hlen (m.items.flatMap imB ++ rest)
    have e2 := tkI_fwd rest m.items a.items fun v h => ⟨hf.h8 v h, h5 v h⟩
    rw [hi rfl] at e2
    simp only [Pt.take, Pt.put, Pt.move, List.append_assoc, e1, hi rfl, e2, List.nil_append]
theorem move_lists (p : Pt) (a m : Ms) : (p ≠ .votes → (p.move a m).votes = a.votes) ∧ (p ≠ .items → (p.move a m).items = a.items) := by
  cases p <;> exact ⟨fun h => by first | rfl | exact absurd rfl h, fun h => by first | rfl | exact absurd rfl h⟩
theorem fold_fwd (m : Ms) (hf : m.Fits) (h1 : m.value.length ≤ 65536) (h4 : ∀ v ∈ m.votes, v.value.length ≤ 65536) (h5 : ∀ x ∈ m.items, x.value.length ≤ 65536) : ∀ (l : List Pt) (a : Ms) (rest : List UInt8), apart l = true → l.all (fun p => p.may m) = true → (.votes ∈ l → a.votes = []) → (.items ∈ l → a.items = []) →
    l.foldl (fun a q => q.take a) (a, ⟨0, l.flatMap (fun p => p.put m) ++ rest⟩) = (l.foldl (fun a p => p.move a m) a, ⟨0, rest⟩)
  | [], a, rest, _, _, _, _ => rfl
  | p :: l, a, rest, ha, hm, hv, hi => by
    have ha : (l.all (indep p) && apart l) = true := ha
    rw [Bool.and_eq_true] at ha
    rw [List.all_cons, Bool.and_eq_true] at hm
    have e : (p :: l).flatMap (fun p => p.put m) ++ rest = p.put m ++ (l.flatMap (fun p => p.put m) ++ rest) := by rw [List.flatMap_cons, List.append_assoc]
    rw [List.foldl_cons, e, part_fwd p a m _ hf hm.1 (fun e => hv (by rw [e]; exact List.mem_cons_self ..)) (fun e => hi (by rw [e]; exact List.mem_cons_self ..)) h1 h4 h5, List.foldl_cons]
    have k := move_lists p a m
    refine fold_fwd m hf h1 h4 h5 l (p.move a m) rest ha.2 hm.2 (fun hq => ?_) (fun hq => ?_)
    · by_cases e : p = .votes
      · subst e; have := List.all_eq_true.1 ha.1 _ hq; cases this
      · rw [k.1 e]; exact hv (List.mem_cons_of_mem _ hq)
    · by_cases e : p = .items
      · subst e; have := List.all_eq_true.1 ha.1 _ hq; cases this
      · rw [k.2 e]; exact hi (List.mem_cons_of_mem _ hq)
/-- What is short enough to be looked at. -/
structure Ms.Short (m : Ms) : Prop where
  h1 : m.value.length ≤ 65536
  h4 : ∀ v ∈ m.votes, v.value.length ≤ 65536
  h5 : ∀ x ∈ m.items, x.value.length ≤ 65536
theorem check_parts {m : Ms} (h : checkB m = true) : (partsOf m.kind).all (fun p => p.may m) = true ∧ m = moved (partsOf m.kind) m ∧ partsOf m.kind ≠ [] := by
  unfold checkB at h
  simp only [Bool.and_eq_true, Bool.not_eq_true', decide_eq_true_eq] at h
  exact ⟨h.2.1, h.2.2, fun e => by rw [e] at h; cases h.1⟩
theorem takeM_put (m : Ms) (hf : m.Fits) (hs : m.Short) (hc : checkB m = true) (hl : (insideB m).length ≤ 65536) : takeM (Frame.frameB (insideB m)) = (m, 0) := by
  obtain ⟨c1, c2, _⟩ := check_parts hc
  have hF := Frame.take_put (insideB m) [] (by simp [insideB]) hl
  rw [List.append_nil] at hF
  have hk : Rd.byte ⟨0, insideB m⟩ = (m.kind, ⟨0, (partsOf m.kind).flatMap (fun p => p.put m)⟩) := byte_fwd m.kind hf.h1 _
  have hx := fold_fwd m hf hs.h1 hs.h4 hs.h5 (partsOf m.kind) (ms0 m.kind) [] (parts_apart _) c1 (fun _ => rfl) (fun _ => rfl)
  rw [List.append_nil] at hx
  have hx2 : (m, (⟨0, []⟩ : Rd)) = taken (partsOf m.kind) m.kind ⟨0, (partsOf m.kind).flatMap (fun p => p.put m)⟩ := by
    unfold taken
    rw [hx]
    exact congrArg (fun z => (z, (⟨0, []⟩ : Rd))) c2
  rw [takeM_3 hF rfl rfl hk hx2, if_pos ⟨by show (Rd.end_ ⟨0, []⟩).err = 0; rfl, hc⟩]
theorem putM_is_ok {m : Ms} (hc : checkB m = true) (hl : (insideB m).length ≤ 65536) : putM m = (Frame.frameB (insideB m), 0) := by unfold putM; rw [if_pos hc, if_pos hl]
/-- Looked at by a law: not great. -/
structure Ms.Lim (m : Ms) : Prop where
  h1 : m.value.length ≤ 300
  h2 : m.votes.length ≤ 100
  h3 : m.items.length ≤ 100
  h4 : ∀ v ∈ m.votes, v.value.length ≤ 300
  h5 : ∀ x ∈ m.items, x.value.length ≤ 300
  h6 : m.cmd.key.length ≤ 300
  h7 : m.cmd.old.length ≤ 300
  h8 : m.cmd.new.length ≤ 300
  h9 : m.text.length ≤ 300
theorem Ms.Lim.short {m : Ms} (h : m.Lim) : m.Short := ⟨Nat.le_trans h.h1 (by decide), fun v hv => Nat.le_trans (h.h4 v hv) (by decide), fun v hv => Nat.le_trans (h.h5 v hv) (by decide)⟩
theorem Ms.Lim.small {m : Ms} (h : m.Lim) (hf : m.Fits) : m.Small := by
  have v1 := flat_le voB 1028 m.votes fun v hv => voB_len v (hf.h7 v hv) (Nat.le_trans (h.h4 v hv) (by decide))
  have v2 := flat_le imB 1028 m.items fun v hv => imB_len v (hf.h8 v hv) (Nat.le_trans (h.h5 v hv) (by decide))
  have a := h.h2
  have b := h.h3
  exact ⟨Nat.le_trans h.h1 (by decide), by omega, by omega, fun v hv => Nat.le_trans (h.h4 v hv) (by decide), fun v hv => Nat.le_trans (h.h5 v hv) (by decide), Nat.le_trans h.h6 (by decide), Nat.le_trans h.h7 (by decide), Nat.le_trans h.h8 (by decide), Nat.le_trans h.h9 (by decide), by omega, by omega⟩
end Go.Proofs.YteiaiilfekojfaaGreat.Msg
end
section
set_option linter.unusedVariables false
set_option linter.unusedSimpArgs false
namespace Go.Proofs.YteiaiilfekojfaaGreat.Msg
open Go.RowKit Sx Wire DrawInv
set_option maxRecDepth 100000 in
set_option maxHeartbeats 4000000 in
theorem take_any (s : List UInt8)  (w : World) (hsl : s.length ≤ 100000) : Calls Tryz.prog 19 #[.string ⟨s.toArray⟩] w fun e w' => TakeRet s w e w' := by
  obtain ⟨⟨fi, fn, fe⟩, hF⟩ : ∃ x, Frame.takeF s = x := ⟨_, rfl⟩
  have hfi : fi.length ≤ 65536 := by have h := takeF_len s; rw [hF] at h; exact h
  refine sx_enter (n := 54) _ Tryz.func19 rfl rfl rfl (Hp.start w) ?_
  refine SxC.seq (SxC.region ?_)
  refine SxL.new (cs := [.int .u8 0, .int .u64 0, .int .u8 0, .int .u64 0, .int .u64 0, .int .u8 0, .string ⟨[].toArray⟩, .slice none 0 0, .slice none 0 0, .int .u8 0, .int .u32 0, .int .u8 0, .string ⟨[].toArray⟩, .string ⟨[].toArray⟩, .string ⟨[].toArray⟩, .int .u8 0, .int .u8 0, .string ⟨[].toArray⟩]) trivial rfl rfl (fun ρ w E H => ex_alloc rfl zr_palaver_api_Msg rfl) fun g1 hg1 => ?_
  refine SxL.val trivial rfl rfl (fun ρ w E H => ex_assign E rfl rfl) ?_
  refine SxL.nil (SxN.then_ (SxC.seq (SxC.region ?_)))
  refine SxL.val trivial rfl rfl (fun ρ w E H => ex_move E rfl rfl) ?_
  refine SxL.callB (v := .tuple #[.string ⟨fi.toArray⟩, .int .i64 (fn : Int), .int .i64 (fe : Int)]) trivial rfl rfl (fun ρ w E => ex_call E en_palaver_frame_Take rfl rfl) (fun w H => ftake_p hF hsl w) ?_
  refine SxL.val trivial rfl rfl (fun ρ w E H => ex_move E rfl rfl) ?_
  refine SxL.val (v := .string ⟨fi.toArray⟩) trivial rfl rfl (fun ρ w E H => ex_extract E rfl rfl rfl) ?_
  refine SxL.val (v := .int .i64 (fn : Int)) trivial rfl rfl (fun ρ w E H => ex_extract E rfl rfl rfl) ?_
  refine SxL.val (v := .int .i64 (fe : Int)) trivial rfl rfl (fun ρ w E H => ex_extract E rfl rfl rfl) ?_
  iterate 3 refine SxL.val trivial rfl rfl (fun ρ w E H => ex_assign E rfl rfl) ?_
  refine SxL.nil (SxN.then_ (SxC.seq (SxC.seq (SxC.region ?_))))
  refine SxL.val trivial rfl rfl (fun ρ w E H => ex_move E rfl rfl) ?_
  refine SxL.valB trivial rfl rfl (fun ρ w E H => ex_cmp E rfl rfl rfl rfl rfl) fun c18 hc18 => ?_
  refine SxL.nil (SxN.then_ ?_)
  cases c18
  · refine SxC.condF rfl (SxC.skip (SxN.then_ (SxC.seq (SxC.seq (SxC.region ?_)))))
    iterate 2 refine SxL.val trivial rfl rfl (fun ρ w E H => ex_move E rfl rfl) ?_
    refine SxL.val (v := .int .i64 (s.length : Int)) trivial rfl rfl (fun ρ w E H => ex_lenT E rfl Tryz.underlying9 rfl) ?_
    refine SxL.valB trivial rfl rfl (fun ρ w E H => ex_cmp E rfl rfl rfl rfl rfl) fun c24 hc24 => ?_
    refine SxL.nil (SxN.then_ ?_)
    cases c24
    · refine SxC.condF rfl (SxC.skip (SxN.then_ (SxC.seq (SxC.region ?_))))
      refine SxL.val trivial rfl rfl (fun ρ w E H => ex_move E rfl rfl) ?_
      refine SxL.call (σ := Nat) (fun s => .pointer (some ⟨s, 0, none⟩)) (fun s => _) (fun s => _) trivial rfl rfl (fun ρ w E => ex_call E en_palaver_wire_Of rfl rfl) (call_of fi) fun gr hgr_ => ?_
      have hgr : w.heap.size ≤ gr := hgr_.2 _ (List.mem_singleton.2 rfl)
      refine SxL.val trivial rfl rfl (fun ρ w E H => ex_assign E rfl rfl) ?_
      refine SxL.nil (SxN.then_ (SxC.seq (SxC.region ?_)))
      refine SxL.val trivial rfl rfl (fun ρ w E H => ex_move E rfl rfl) ?_
      obtain ⟨p29, hp29⟩ : ∃ p, Rd.byte (⟨0, fi⟩ : Rd) = p := ⟨_, rfl⟩
      refine SxL.call (σ := Unit) (fun _ => .int .u8 (p29.1 : Int)) (fun _ => True) (fun _ => _) trivial rfl rfl (fun ρ w E => ex_call E en_palaver_wire_Reader_Byte rfl rfl) (callTurn (i := 0) (cell gr 157 [.int .i64 (p29.2.err : Int), .string ⟨p29.2.rest.toArray⟩]) rfl (cell_loc _ _ _) rfl (fun w H => (byte_p hp29 (by have q0 := (show (⟨0, fi⟩ : Rd).rest.length ≤ 65536 from hfi); omega) w (H.get (i := 0) rfl)).mono fun _ _ h => turn_rd h)) fun _ _ => ?_
      refine SxL.val trivial rfl rfl (fun ρ w E H => ex_build (cs := [.int .u8 (p29.1 : Int), .int .u64 0, .int .u8 0, .int .u64 0, .int .u64 0, .int .u8 0, .string ⟨[].toArray⟩, .slice none 0 0, .slice none 0 0, .int .u8 0, .int .u32 0, .int .u8 0, .string ⟨[].toArray⟩, .string ⟨[].toArray⟩, .string ⟨[].toArray⟩, .int .u8 0, .int .u8 0, .string ⟨[].toArray⟩]) E rfl rfl (by kernel_rfl)) ?_
      refine SxL.new (cs := [.int .u8 0, .int .u64 0, .int .u8 0, .int .u64 0, .int .u64 0, .int .u8 0, .string ⟨[].toArray⟩, .slice none 0 0, .slice none 0 0, .int .u8 0, .int .u32 0, .int .u8 0, .string ⟨[].toArray⟩, .string ⟨[].toArray⟩, .string ⟨[].toArray⟩, .int .u8 0, .int .u8 0, .string ⟨[].toArray⟩]) trivial rfl rfl (fun ρ w E H => ex_alloc rfl zr_palaver_api_Msg rfl) fun g2 hg2 => ?_
      refine SxL.store (i := 0) trivial rfl rfl rfl rfl rfl sz_palaver_api_Msg rfl rfl rfl ?_
      refine SxL.nil (SxN.then_ (SxC.seq (SxC.seq (SxC.region ?_))))
      refine SxL.val (v := .pointer (some ⟨g2, 0, none⟩)) trivial rfl rfl (fun ρ w E H => ex_field E rfl fa_palaver_api_Msg_0 rfl rfl) ?_
      refine SxL.val trivial rfl rfl (fun ρ w E H => ex_load1 E (H.get (i := 0) rfl) rfl rfl Tryz.underlying5 rfl rfl) ?_
      refine SxL.call (σ := PS) (fun s => .slice s.A (List.length s.q) s.c) (fun s => _) (fun s => _) trivial rfl rfl (fun ρ w E => ex_call E en_palaver_msg_parts rfl rfl) (call_parts p29.1) fun s hs_ => ?_
      obtain ⟨pA, pc, gb, q⟩ := s
      obtain ⟨⟨hq, hpA⟩, hpf⟩ := hs_
      dsimp only at hq hpA hpf
      refine SxL.val (v := .int .i64 (q.length : Int)) trivial rfl rfl (fun ρ w E H => ex_lenS E rfl Tryz.underlying95 rfl) ?_
      refine SxL.val trivial rfl rfl (fun ρ w E H => ex_move E rfl rfl) ?_
      refine SxL.nil (SxN.then_ (SxC.block ?_))
      have hGG0 : GG (ms0 p29.1, p29.2) := by have q0 : p29.2.rest.length ≤ fi.length := rp_byte hp29; exact ⟨⟨by show p29.2.rest.length ≤ _; omega, (show 0 ≤ 100001 by decide), fun _ => by show 0 + p29.2.rest.length ≤ _; omega⟩, ⟨by show p29.2.rest.length ≤ _; omega, (show 0 ≤ 100001 by decide), fun _ => by show 0 + p29.2.rest.length ≤ _; omega⟩⟩
      refine SxC.hp (fun W H => H.re (i := 1) rfl (madeF w.heap.size g2 (ms0 p29.1) (.slice none 0 0) (.slice none 0 0)) (madeF_loc _ _ _ _ _) rfl (fun h => made_new (k := p29.1) h)) ?_
      refine SxC.loop4 (fun (k : Nat) (x : Ms × Rd) (V : Value) (I : Value) => [(2, .pointer (some ⟨g1, 0, none⟩)), (3, .int .i64 0), (7, .pointer (some ⟨gr, 0, none⟩)), (8, .pointer (some ⟨g2, 0, none⟩)), (33, .slice pA q.length pc), (34, .int .i64 (q.length : Int)), (35, .int .i64 (k : Int))]) (fun (k : Nat) (x : Ms × Rd) (V : Value) (I : Value) => [cell gr 157 [.int .i64 (x.2.err : Int), .string ⟨x.2.rest.toArray⟩], madeF w.heap.size g2 x.1 V I, partsF gb q, cell g1 33 [.int .u8 0, .int .u64 0, .int .u8 0, .int .u64 0, .int .u64 0, .int .u8 0, .string ⟨[].toArray⟩, .slice none 0 0, .slice none 0 0, .int .u8 0, .int .u32 0, .int .u8 0, .string ⟨[].toArray⟩, .string ⟨[].toArray⟩, .string ⟨[].toArray⟩, .int .u8 0, .int .u8 0, .string ⟨[].toArray⟩]]) (fun (gk : Nat) (k : Nat) (x : Ms × Rd) (V : Value) (I : Value) => k + gk = q.length ∧ x = taken ((partsOf p29.1).take k) p29.1 p29.2 ∧ GG x ∧ OwnIn w [] V ∧ OwnIn w [] I) q.length 0 (ms0 p29.1, p29.2) (.slice none 0 0) (.slice none 0 0) ⟨by omega, rfl, hGG0, own_none w, own_none w⟩ ⟨rfl, rfl, rfl, rfl, rfl, rfl, rfl, trivial⟩ [2, 1, 0, 3] rfl (by decide) ⟨.inl rfl, .inl rfl, .inl rfl, .inl rfl, trivial⟩ fun gk k x V I hF_ => ?_
      obtain ⟨hkg, hxk, hGG, hV, hI⟩ := hF_
      refine SxC.seq (SxC.region ?_)
      refine SxL.valB trivial rfl rfl (fun ρ w E H => ex_cmp E rfl rfl rfl rfl rfl) fun c36 hc36 => ?_
      refine SxL.nil (SxN.then_ (SxC.seq ?_))
      cases c36
      · refine SxC.condF rfl (SxC.exit (SxX.thenE (SxX.thenE (SxX.blockE (SxN.then_ (SxC.seq (SxC.seq ?_)))))))
        have hle : (partsOf p29.1).length ≤ k := by rw [← hq, List.length_map]; have h := hc36; simp [cmpB] at h; omega
        have hxe : x = taken (partsOf p29.1) p29.1 p29.2 := by rw [hxk, List.take_of_length_le hle]
        have hk8 : p29.1 < 256 := by rw [← hp29]; exact lt_byte _
        have hsm : (Rd.end_ x.2).err = 0 → x.1.Fits ∧ x.1.Small := fun h => by have h0 := (Cmd.end_zero h).1; rw [hxe] at h0 ⊢; exact taken_small hk8 (by have q0 : p29.2.rest.length ≤ fi.length := rp_byte hp29; omega) h0
        refine SxC.with (fun W H => own_is_slice (H.get (i := 1) rfl : (madeF _ _ _ _ _).φ W).2.1) ?_
        rintro ⟨A2, k2, rfl⟩
        refine SxC.with (fun W H => own_is_slice (H.get (i := 1) rfl : (madeF _ _ _ _ _).φ W).2.2) ?_
        rintro ⟨B2, l2, rfl⟩
        refine SxC.region ?_
        refine SxL.val trivial rfl rfl (fun ρ w E H => ex_move E rfl rfl) ?_
        refine SxL.call (σ := Unit) (fun _ => .int .i64 ((Rd.end_ x.2).err : Int)) (fun _ => True) (fun _ => _) trivial rfl rfl (fun ρ w E => ex_call E en_palaver_wire_Reader_End rfl rfl) (callTurn (i := 0) (cell gr 157 [.int .i64 ((Rd.end_ x.2).err : Int), .string ⟨((Rd.end_ x.2).rest).toArray⟩]) rfl (cell_loc _ _ _) rfl (fun w H => (end_any gr x.2 w (H.get (i := 0) rfl)).mono fun _ _ h => turn_rd h)) fun _ _ => ?_
        refine SxL.valB trivial rfl rfl (fun ρ w E H => ex_cmp E rfl rfl rfl rfl rfl) fun c46 hc46 => ?_
        refine SxL.val trivial rfl rfl (fun ρ w E H => ex_move E rfl rfl) ?_
        cases c46
        · refine SxL.val ⟨_, _, rfl, rfl, rfl⟩ rfl rfl (fun ρ w E H => ex_load (cs := msL x.1 (.slice A2 x.1.votes.length k2) (.slice B2 x.1.items.length l2)) (part := msL x.1 (.slice A2 x.1.votes.length k2) (.slice B2 x.1.items.length l2)) E ((H.get (i := 1) rfl : (madeF _ _ _ _ _).φ w).1) rfl rfl Tryz.underlying33 rfl sz_palaver_api_Msg rfl rfl) ?_
          refine SxL.callB (v := .int .i64 (if checkB x.1 then 0 else 2)) ⟨_, _, rfl, rfl, rfl⟩ rfl rfl (fun ρ w E => ex_call E en_palaver_msg_Check rfl rfl) (fun w H => check_any x.1 A2 B2 k2 l2 w (hsm (by have h := hc46; simp [cmpB] at h; omega)).1 (hsm (by have h := hc46; simp [cmpB] at h; omega)).2 (made_rows (H.get (i := 1) rfl))) ?_
          refine SxL.valB ⟨_, _, rfl, rfl, rfl⟩ rfl rfl (fun ρ w E H => ex_cmp E rfl rfl rfl rfl rfl) fun c50 hc50 => ?_
          refine SxL.val trivial rfl rfl (fun ρ w E H => ex_pick E rfl (t := false) rfl rfl) ?_
          refine SxL.nil (SxN.then_ ?_)
          cases c50
          · refine SxC.condF rfl (SxC.skip (SxN.then_ (SxC.seq (SxC.region ?_))))
            refine SxL.val trivial rfl rfl (fun ρ w E H => ex_load (cs := msL x.1 (.slice A2 x.1.votes.length k2) (.slice B2 x.1.items.length l2)) (part := msL x.1 (.slice A2 x.1.votes.length k2) (.slice B2 x.1.items.length l2)) E ((H.get (i := 1) rfl : (madeF _ _ _ _ _).φ w).1) rfl rfl Tryz.underlying33 rfl sz_palaver_api_Msg rfl rfl) ?_
            refine SxL.store (i := 3) trivial rfl rfl rfl rfl rfl sz_palaver_api_Msg rfl rfl rfl ?_
            refine SxL.val trivial rfl rfl (fun ρ w E H => ex_assign E rfl rfl) ?_
            refine SxL.nil (SxN.then_ (SxC.ret ?_))
            refine SxX.done _ (fun a w K H => resN K [.agg #[.int .u8 (x.1.kind : Int), .int .u64 (x.1.bn : Int), .int .u8 (x.1.br : Int), .int .u64 (x.1.base : Int), .int .u64 (x.1.slot : Int), .int .u8 (x.1.node : Int), .string ⟨x.1.value.toArray⟩, .slice A2 x.1.votes.length k2, .slice B2 x.1.items.length l2, .int .u8 (x.1.cmd.client : Int), .int .u32 (x.1.cmd.seq : Int), .int .u8 (x.1.cmd.kind : Int), .string ⟨x.1.cmd.key.toArray⟩, .string ⟨x.1.cmd.old.toArray⟩, .string ⟨x.1.cmd.new.toArray⟩, .int .u8 (x.1.cmd.set : Int), .int .u8 (x.1.code : Int), .string ⟨x.1.text.toArray⟩], .int .i64 0] rfl ⟨⟨_, rfl, blk_loadVar (H.get (i := 3) rfl) Tryz.underlying33 rfl sz_palaver_api_Msg⟩, rfl, trivial⟩) (fun w H => ?_)
            have ht := takeM_3 hF (by have h := hc18; simp [cmpB] at h; omega) (by have h := hc24; simp [cmpB] at h; omega) hp29 hxe
            rw [if_pos ⟨by have h := hc46; simp [cmpB] at h; omega, by cases hb : checkB x.1 with | true => rfl | false => (have h := hc50; rw [hb] at h; simp [cmpB] at h)⟩] at ht
            unfold TakeRet
            rw [ht]
            have hM : Made _ _ _ _ _ w := H.get (i := 1) rfl
            exact ⟨_, _, rfl, hM.2.1, hM.2.2, H.toBelow ⟨(fun g hg => by rw [List.mem_singleton.1 hg]; exact hgr), (made_fresh hg2 hV hI), hpf, (fun g hg => by rw [List.mem_singleton.1 hg]; exact hg1), trivial⟩⟩
          · refine SxC.condT rfl (SxC.seq (SxC.region ?_))
            refine SxL.val trivial rfl rfl (fun ρ w E H => ex_build (cs := [.int .u8 0, .int .u64 0, .int .u8 0, .int .u64 0, .int .u64 0, .int .u8 0, .string ⟨[].toArray⟩, .slice none 0 0, .slice none 0 0, .int .u8 0, .int .u32 0, .int .u8 0, .string ⟨[].toArray⟩, .string ⟨[].toArray⟩, .string ⟨[].toArray⟩, .int .u8 0, .int .u8 0, .string ⟨[].toArray⟩]) E rfl rfl (by kernel_rfl)) ?_
            refine SxL.store (i := 3) trivial rfl rfl rfl rfl rfl sz_palaver_api_Msg rfl rfl rfl ?_
            refine SxL.val trivial rfl rfl (fun ρ w E H => ex_assign E rfl rfl) ?_
            refine SxL.nil (SxN.then_ (SxC.ret (SxX.thenR ?_)))
            refine SxX.done _ (fun a w K H => resN K [.agg #[.int .u8 0, .int .u64 0, .int .u8 0, .int .u64 0, .int .u64 0, .int .u8 0, .string ⟨[].toArray⟩, .slice none 0 0, .slice none 0 0, .int .u8 0, .int .u32 0, .int .u8 0, .string ⟨[].toArray⟩, .string ⟨[].toArray⟩, .string ⟨[].toArray⟩, .int .u8 0, .int .u8 0, .string ⟨[].toArray⟩], .int .i64 4] rfl ⟨⟨_, rfl, blk_loadVar (H.get (i := 3) rfl) Tryz.underlying33 rfl sz_palaver_api_Msg⟩, rfl, trivial⟩) (fun w H => ?_)
            have ht := takeM_3 hF (by have h := hc18; simp [cmpB] at h; omega) (by have h := hc24; simp [cmpB] at h; omega) hp29 hxe
            rw [if_neg (fun hh => by have h := hc50; rw [hh.2] at h; simp [cmpB] at h)] at ht
            unfold TakeRet
            rw [ht]
            exact ⟨.slice none 0 0, .slice none 0 0, rfl, World.ownsRow_nil _ _ _ _, World.ownsRow_nil _ _ _ _, H.toBelow ⟨(fun g hg => by rw [List.mem_singleton.1 hg]; exact hgr), (made_fresh hg2 hV hI), hpf, (fun g hg => by rw [List.mem_singleton.1 hg]; exact hg1), trivial⟩⟩
        · refine SxL.off ⟨_, _, _, rfl, rfl, rfl, nofun⟩ rfl rfl ?_
          iterate 2 refine SxL.off ⟨_, _, _, rfl, rfl, rfl, nofun⟩ rfl rfl ?_
          refine SxL.val trivial rfl rfl (fun ρ w E H => ex_pick E rfl (t := true) rfl rfl) ?_
          refine SxL.nil (SxN.then_ (SxC.condT rfl (SxC.seq (SxC.region ?_))))
          refine SxL.val trivial rfl rfl (fun ρ w E H => ex_build (cs := [.int .u8 0, .int .u64 0, .int .u8 0, .int .u64 0, .int .u64 0, .int .u8 0, .string ⟨[].toArray⟩, .slice none 0 0, .slice none 0 0, .int .u8 0, .int .u32 0, .int .u8 0, .string ⟨[].toArray⟩, .string ⟨[].toArray⟩, .string ⟨[].toArray⟩, .int .u8 0, .int .u8 0, .string ⟨[].toArray⟩]) E rfl rfl (by kernel_rfl)) ?_
          refine SxL.store (i := 3) trivial rfl rfl rfl rfl rfl sz_palaver_api_Msg rfl rfl rfl ?_
          refine SxL.val trivial rfl rfl (fun ρ w E H => ex_assign E rfl rfl) ?_
          refine SxL.nil (SxN.then_ (SxC.ret (SxX.thenR ?_)))
          refine SxX.done _ (fun a w K H => resN K [.agg #[.int .u8 0, .int .u64 0, .int .u8 0, .int .u64 0, .int .u64 0, .int .u8 0, .string ⟨[].toArray⟩, .slice none 0 0, .slice none 0 0, .int .u8 0, .int .u32 0, .int .u8 0, .string ⟨[].toArray⟩, .string ⟨[].toArray⟩, .string ⟨[].toArray⟩, .int .u8 0, .int .u8 0, .string ⟨[].toArray⟩], .int .i64 4] rfl ⟨⟨_, rfl, blk_loadVar (H.get (i := 3) rfl) Tryz.underlying33 rfl sz_palaver_api_Msg⟩, rfl, trivial⟩) (fun w H => ?_)
          have ht := takeM_3 hF (by have h := hc18; simp [cmpB] at h; omega) (by have h := hc24; simp [cmpB] at h; omega) hp29 hxe
          rw [if_neg (fun hh => by have h := hc46; simp [cmpB] at h; omega)] at ht
          unfold TakeRet
          rw [ht]
          exact ⟨.slice none 0 0, .slice none 0 0, rfl, World.ownsRow_nil _ _ _ _, World.ownsRow_nil _ _ _ _, H.toBelow ⟨(fun g hg => by rw [List.mem_singleton.1 hg]; exact hgr), (made_fresh hg2 hV hI), hpf, (fun g hg => by rw [List.mem_singleton.1 hg]; exact hg1), trivial⟩⟩
      · refine SxC.condT rfl (SxC.skip (SxN.then_ (SxC.seq (SxC.block (SxC.seq ?_)))))
        have hkl : k < q.length := by have h := hc36; simp [cmpB] at h; omega
        obtain ⟨⟨p, gc⟩, hx⟩ : ∃ x, q[k]? = some x := ⟨_, List.getElem?_eq_getElem hkl⟩
        obtain rfl := hpA (by rintro rfl; cases hx)
        have hp : (partsOf p29.1)[k]? = some p := by rw [← hq, List.getElem?_map, hx]; rfl
        have hql : q.length ≤ 4 := by have h := (parts_two p29.1).2; rw [← hq, List.length_map] at h; exact h
        refine SxC.region ?_
        refine SxL.val (v := .pointer (some ((⟨gb, 0, none⟩ : Addr).add (k * 4)))) trivial rfl rfl (fun ρ w E H => ex_index (i := k) E rfl Tryz.underlying95 sz_palaver_msg_part rfl rfl hkl) ?_
        refine SxL.val (v := .agg #[.func (.func p.putF) #[] #[], .func (.func p.takeF) #[] #[], .func (.func p.moveF) #[] #[], .func (.func p.mayF) #[] (p.cap gc).toArray]) trivial rfl rfl (fun ρ w E H => ex_loadX (cs := [.func (.func p.putF) #[] #[], .func (.func p.takeF) #[] #[], .func (.func p.moveF) #[] #[], .func (.func p.mayF) #[] (p.cap gc).toArray]) E (parts_row (H.get (i := 2) rfl) hx) rfl rfl Tryz.underlying101 rfl sz_palaver_msg_part) ?_
        refine SxL.new (cs := [.nilFunc, .nilFunc, .nilFunc, .nilFunc]) trivial rfl rfl (fun ρ w E H => ex_alloc rfl zr_palaver_msg_part rfl) fun g3 hg3 => ?_
        refine SxL.store (i := 0) trivial rfl rfl rfl rfl rfl sz_palaver_msg_part rfl rfl rfl ?_
        refine SxL.nil (SxN.then_ (SxC.region ?_))
        refine SxL.val (v := .pointer (some ⟨g3, 1, none⟩)) trivial rfl rfl (fun ρ w E H => ex_field E rfl fa_palaver_msg_part_1 rfl rfl) ?_
        refine SxL.val trivial rfl rfl (fun ρ w E H => ex_load1 E (H.get (i := 0) rfl) rfl rfl Tryz.underlying98 rfl rfl) ?_
        refine SxL.val trivial rfl rfl (fun ρ w E H => ex_move E rfl rfl) ?_
        refine SxL.call2 (fun _ _ => .tuple #[]) (fun V2 I2 => OwnIn w [] V2 ∧ OwnIn w [] I2) (fun V2 I2 => _) trivial rfl rfl (fun ρ w E => ex_callV E (enters_take p) rfl rfl rfl rfl) (call_take (x := x) (x' := p.take x) [1, 2, 0, 3, 4] rfl (by decide) ⟨.inl rfl, .inl rfl, .inl rfl, .inl rfl, .inl rfl, trivial⟩ hgr hg2 hV hI (fun w H hne => take_all p _ gr g2 x.2 x.1 V I w (H.get (i := 0) rfl) (H.get (i := 1) rfl) hne H.os.size hGG)) fun V2 I2 hVI => ?_
        refine SxL.nil (SxN.block (SxN.then_ (SxC.region ?_)))
        refine SxL.val (v := .int .i64 ((k + 1 : Nat) : Int)) trivial rfl rfl (fun ρ w E H => ex_add E rfl rfl rfl (by rw [IntKind.wrap_i64]; omega)) ?_
        refine SxL.val trivial rfl rfl (fun ρ w E H => ex_move E rfl rfl) ?_
        refine SxL.nil ?_
        refine SxN.back (gk - 1) (k + 1, Pt.take p x, V2, I2) (by omega) ⟨by omega, by rw [taken_snoc hp, hxk], take_grows p x hGG, hVI.1, hVI.2⟩ ⟨rfl, rfl, rfl, rfl, rfl, rfl, rfl, trivial⟩ [0, 1, 3, 4] rfl (by decide) ⟨.inl rfl, .inl rfl, .inr (fun g hg => by rw [List.mem_singleton.1 hg]; exact hg3), .inl rfl, .inl rfl, trivial⟩
    · refine SxC.condT rfl (SxC.seq (SxC.region ?_))
      refine SxL.val trivial rfl rfl (fun ρ w E H => ex_build (cs := [.int .u8 0, .int .u64 0, .int .u8 0, .int .u64 0, .int .u64 0, .int .u8 0, .string ⟨[].toArray⟩, .slice none 0 0, .slice none 0 0, .int .u8 0, .int .u32 0, .int .u8 0, .string ⟨[].toArray⟩, .string ⟨[].toArray⟩, .string ⟨[].toArray⟩, .int .u8 0, .int .u8 0, .string ⟨[].toArray⟩]) E rfl rfl (by kernel_rfl)) ?_
      refine SxL.store (i := 0) trivial rfl rfl rfl rfl rfl sz_palaver_api_Msg rfl rfl rfl ?_
      refine SxL.val trivial rfl rfl (fun ρ w E H => ex_assign E rfl rfl) ?_
      refine SxL.nil (SxN.then_ (SxC.ret (SxX.thenR ?_)))
      refine SxX.done _ (fun a w K H => resN K [.agg #[.int .u8 0, .int .u64 0, .int .u8 0, .int .u64 0, .int .u64 0, .int .u8 0, .string ⟨[].toArray⟩, .slice none 0 0, .slice none 0 0, .int .u8 0, .int .u32 0, .int .u8 0, .string ⟨[].toArray⟩, .string ⟨[].toArray⟩, .string ⟨[].toArray⟩, .int .u8 0, .int .u8 0, .string ⟨[].toArray⟩], .int .i64 4] rfl ⟨⟨_, rfl, blk_loadVar (H.get (i := 0) rfl) Tryz.underlying33 rfl sz_palaver_api_Msg⟩, rfl, trivial⟩) (fun w H => ?_)
      have ht : takeM s = (ms0 0, 4) := takeM_2 hF (by have h := hc18; simp [cmpB] at h; omega) (by have h := hc24; simp [cmpB] at h; omega)
      unfold TakeRet
      rw [ht]
      exact ⟨.slice none 0 0, .slice none 0 0, rfl, World.ownsRow_nil _ _ _ _, World.ownsRow_nil _ _ _ _, H.toBelow ⟨(fun g hg => by rw [List.mem_singleton.1 hg]; exact hg1), trivial⟩⟩
  · refine SxC.condT rfl (SxC.seq (SxC.region ?_))
    refine SxL.val trivial rfl rfl (fun ρ w E H => ex_build (cs := [.int .u8 0, .int .u64 0, .int .u8 0, .int .u64 0, .int .u64 0, .int .u8 0, .string ⟨[].toArray⟩, .slice none 0 0, .slice none 0 0, .int .u8 0, .int .u32 0, .int .u8 0, .string ⟨[].toArray⟩, .string ⟨[].toArray⟩, .string ⟨[].toArray⟩, .int .u8 0, .int .u8 0, .string ⟨[].toArray⟩]) E rfl rfl (by kernel_rfl)) ?_
    refine SxL.val trivial rfl rfl (fun ρ w E H => ex_move E rfl rfl) ?_
    refine SxL.store (i := 0) trivial rfl rfl rfl rfl rfl sz_palaver_api_Msg rfl rfl rfl ?_
    refine SxL.val trivial rfl rfl (fun ρ w E H => ex_assign E rfl rfl) ?_
    refine SxL.nil (SxN.then_ (SxC.ret (SxX.thenR ?_)))
    refine SxX.done _ (fun a w K H => resN K [.agg #[.int .u8 0, .int .u64 0, .int .u8 0, .int .u64 0, .int .u64 0, .int .u8 0, .string ⟨[].toArray⟩, .slice none 0 0, .slice none 0 0, .int .u8 0, .int .u32 0, .int .u8 0, .string ⟨[].toArray⟩, .string ⟨[].toArray⟩, .string ⟨[].toArray⟩, .int .u8 0, .int .u8 0, .string ⟨[].toArray⟩], .int .i64 (fe : Int)] rfl ⟨⟨_, rfl, blk_loadVar (H.get (i := 0) rfl) Tryz.underlying33 rfl sz_palaver_api_Msg⟩, rfl, trivial⟩) (fun w H => ?_)
    have ht : takeM s = (ms0 0, fe) := takeM_1 hF (by have h := hc18; simp [cmpB] at h; omega)
    unfold TakeRet
    rw [ht]
    exact ⟨.slice none 0 0, .slice none 0 0, rfl, World.ownsRow_nil _ _ _ _, World.ownsRow_nil _ _ _ _, H.toBelow ⟨(fun g hg => by rw [List.mem_singleton.1 hg]; exact hg1), trivial⟩⟩
end Go.Proofs.YteiaiilfekojfaaGreat.Msg
end
section
set_option linter.unusedVariables false
set_option linter.unusedSimpArgs false
namespace Go.Proofs.YteiaiilfekojfaaGreat.Msg
open Go.RowKit Sx Wire DrawInv
theorem call_takeM {w0 : World} {L : List Ft} {m : Ms} {z : Int} (s : List UInt8) (hs : s.length ≤ 100000) {e : Nat} (h : takeM s = (m, e)) (hz : (e : Int) = z) : ∀ w, Hp w0 L w → Calls Tryz.prog 19 #[.string ⟨s.toArray⟩] w fun E w' => ∃ V I, E = .returned (.tuple #[.agg (msL m V I).toArray, .int .i64 z]) ∧ (OwnIn w0 [] V ∧ OwnIn w0 [] I) ∧
    Hp w0 (rowX [] w0.heap.size 92 4 V m.votes.length (m.votes.flatMap voL) :: rowX [] w0.heap.size 94 2 I m.items.length (m.items.flatMap imL) :: L) w' := fun w H => (take_any s w hs).mono fun E w' hT => by
  subst hz
  unfold TakeRet at hT
  rw [h] at hT
  obtain ⟨V, I, h1, h2, h3, h4⟩ := hT
  have f1 : OwnIn w0 [] V := fun b hb => .inr (Nat.le_trans H.os.size (own_lt h2 b hb).1)
  have f2 : OwnIn w0 [] I := fun b hb => .inr (Nat.le_trans H.os.size (own_lt h3 b hb).1)
  refine ⟨V, I, h1, ⟨f1, f2⟩, ?_⟩
  have H2 := H.add h4 (rowX [] w0.heap.size 94 2 I m.items.length (m.items.flatMap imL)) (rowX_loc _ _ _ _ _ _ _) (fun g hg => by
    have hg : g ∈ I.ownBlock.toList := by simpa [rowX] using hg
    exact ⟨(own_lt h3 g hg).2, (own_lt h3 g hg).1⟩) (own_base h3 H.os.size)
  refine H2.know _ (rowX_loc _ _ _ _ _ _ _) (fun g hg => ?_) (own_base h2 H.os.size)
  have hg : g ∈ V.ownBlock.toList := by simpa [rowX] using hg
  refine ⟨(own_lt h2 g hg).2, fun q hq hgq => ?_⟩
  rcases List.mem_cons.1 hq with rfl | hq
  · have hgq : g ∈ I.ownBlock.toList := by simpa [rowX] using hgq
    exact own_own h2 h3 (by decide) g hg hgq
  · have h5 := (H.ok q hq).2.1 g hgq
    have h6 := (own_lt h2 g hg).1
    omega
theorem none_rows (w : World) (m : Ms) (hv : m.votes = []) (hi : m.items = []) : MsRows w m none none := ⟨by rw [hv]; exact Rows.nil _ _ _ _, by rw [hi]; exact Rows.nil _ _ _ _⟩
theorem wm_fits : Ms.Fits (⟨4, 2, 1, 0, 5, 0, [], [], [], Cmd.cm0, 0, []⟩ : Ms) := ⟨(show 4 < 256 by decide), (show 2 < 18446744073709551616 by decide), (show 1 < 256 by decide), (show 0 < 18446744073709551616 by decide), (show 5 < 18446744073709551616 by decide), (show 0 < 256 by decide), (fun v h => by cases h), (fun v h => by cases h), Cmd.cm0_fits, (show 0 < 256 by decide)⟩
theorem wm_lim : Ms.Lim (⟨4, 2, 1, 0, 5, 0, [], [], [], Cmd.cm0, 0, []⟩ : Ms) := ⟨(show 0 ≤ 300 by decide), (show 0 ≤ 100 by decide), (show 0 ≤ 100 by decide), (fun v h => by cases h), (fun v h => by cases h), (show 0 ≤ 300 by decide), (show 0 ≤ 300 by decide), (show 0 ≤ 300 by decide), (show 0 ≤ 300 by decide)⟩
theorem ms0_fits (k : Nat) (hk : k < 256) : (ms0 k).Fits := (ms0_ok k hk).fits
theorem ms0_lim (k : Nat) : (ms0 k).Lim := ⟨(show 0 ≤ 300 by decide), (show 0 ≤ 100 by decide), (show 0 ≤ 100 by decide), (fun v h => by cases h), (fun v h => by cases h), (show 0 ≤ 300 by decide), (show 0 ≤ 300 by decide), (show 0 ≤ 300 by decide), (show 0 ≤ 300 by decide)⟩
theorem wm_check : checkB (⟨4, 2, 1, 0, 5, 0, [], [], [], Cmd.cm0, 0, []⟩ : Ms) = true := by decide
theorem wm_inside : insideB (⟨4, 2, 1, 0, 5, 0, [], [], [], Cmd.cm0, 0, []⟩ : Ms) = [4, 2, 1, 5] := by decide
theorem ms0_check : checkB (ms0 0) = false := by decide
theorem wm_put : ∃ s : List UInt8, putM (⟨4, 2, 1, 0, 5, 0, [], [], [], Cmd.cm0, 0, []⟩ : Ms) = (s, 0) ∧ s.length = 13 ∧ s.drop 9 = [4, 2, 1, 5] ∧ takeM s = ((⟨4, 2, 1, 0, 5, 0, [], [], [], Cmd.cm0, 0, []⟩ : Ms), 0) := by
  have h1 := putM_is_ok wm_check (by rw [wm_inside]; decide)
  have h2 := takeM_put _ wm_fits wm_lim.short wm_check (by rw [wm_inside]; decide)
  rw [wm_inside] at h1 h2
  refine ⟨_, h1, ?_, ?_, h2⟩
  · have h8 := Frame.leB_length 8 (Frame.crcSum [4, 2, 1, 5])
    show (numB 4 ++ (Frame.leB 8 (Frame.crcSum [4, 2, 1, 5]) ++ [4, 2, 1, 5])).length = 13
    rw [List.length_append, List.length_append, h8]
    rfl
  · have h8 := Frame.leB_length 8 (Frame.crcSum [4, 2, 1, 5])
    show (numB 4 ++ (Frame.leB 8 (Frame.crcSum [4, 2, 1, 5]) ++ [4, 2, 1, 5])).drop 9 = _
    rw [← List.append_assoc]
    exact List.drop_left' (by rw [List.length_append, h8]; rfl)

set_option maxRecDepth 100000 in
set_option maxHeartbeats 4000000 in
theorem wakes_any   (w : World) : Calls Tryz.prog 10 #[] w fun e w' => e = .returned (.bool true) ∧ Below w.heap.size w w' := by
  obtain ⟨sw, hwp, hwl, hwd, hwt⟩ := wm_put
  refine sx_enter (n := 49) _ Tryz.func10 rfl rfl rfl (Hp.start w) ?_
  refine SxC.seq (SxC.region ?_)
  refine SxL.val trivial rfl rfl (fun ρ w E H => ex_assign E rfl rfl) ?_
  refine SxL.nil (SxN.then_ (SxC.seq (SxC.region ?_)))
  refine SxL.val trivial rfl rfl (fun ρ w E H => ex_build (cs := [.int .u64 2, .int .u8 1]) E rfl rfl (by kernel_rfl)) ?_
  refine SxL.val trivial rfl rfl (fun ρ w E H => ex_build (cs := [.int .u8 4, .int .u64 2, .int .u8 1, .int .u64 0, .int .u64 5, .int .u8 0, .string ⟨[].toArray⟩, .slice none 0 0, .slice none 0 0, .int .u8 0, .int .u32 0, .int .u8 0, .string ⟨[].toArray⟩, .string ⟨[].toArray⟩, .string ⟨[].toArray⟩, .int .u8 0, .int .u8 0, .string ⟨[].toArray⟩]) E rfl rfl (by kernel_rfl)) ?_
  refine SxL.new (cs := [.int .u8 0, .int .u64 0, .int .u8 0, .int .u64 0, .int .u64 0, .int .u8 0, .string ⟨[].toArray⟩, .slice none 0 0, .slice none 0 0, .int .u8 0, .int .u32 0, .int .u8 0, .string ⟨[].toArray⟩, .string ⟨[].toArray⟩, .string ⟨[].toArray⟩, .int .u8 0, .int .u8 0, .string ⟨[].toArray⟩]) trivial rfl rfl (fun ρ w E H => ex_alloc rfl zr_palaver_api_Msg rfl) fun g1 hg1 => ?_
  refine SxL.store (i := 0) trivial rfl rfl rfl rfl rfl sz_palaver_api_Msg rfl rfl rfl ?_
  refine SxL.nil (SxN.then_ (SxC.seq (SxC.region ?_)))
  refine SxL.val trivial rfl rfl (fun ρ w E H => ex_load (part := [.int .u8 4, .int .u64 2, .int .u8 1, .int .u64 0, .int .u64 5, .int .u8 0, .string ⟨[].toArray⟩, .slice none 0 0, .slice none 0 0, .int .u8 0, .int .u32 0, .int .u8 0, .string ⟨[].toArray⟩, .string ⟨[].toArray⟩, .string ⟨[].toArray⟩, .int .u8 0, .int .u8 0, .string ⟨[].toArray⟩]) E (H.get (i := 0) rfl) rfl rfl Tryz.underlying33 rfl sz_palaver_api_Msg rfl rfl) ?_
  refine SxL.callB (v := .tuple #[.string ⟨sw.toArray⟩, .int .i64 0]) trivial rfl rfl (fun ρ w E => ex_call E en_palaver_msg_Put rfl rfl) (fun w H => (put_any (⟨4, 2, 1, 0, 5, 0, [], [], [], Cmd.cm0, 0, []⟩ : Ms) none none 0 0 w wm_fits (wm_lim.small wm_fits) (none_rows _ _ rfl rfl)).mono fun _ _ h => ⟨by rw [h.1, hwp]; rfl, h.2⟩) ?_
  refine SxL.val trivial rfl rfl (fun ρ w E H => ex_move E rfl rfl) ?_
  refine SxL.val (v := .string ⟨sw.toArray⟩) trivial rfl rfl (fun ρ w E H => ex_extract E rfl rfl rfl) ?_
  refine SxL.val (v := .int .i64 0) trivial rfl rfl (fun ρ w E H => ex_extract E rfl rfl rfl) ?_
  iterate 2 refine SxL.val trivial rfl rfl (fun ρ w E H => ex_assign E rfl rfl) ?_
  refine SxL.nil (SxN.then_ (SxC.seq (SxC.region ?_)))
  refine SxL.val trivial rfl rfl (fun ρ w E H => ex_move E rfl rfl) ?_
  refine SxL.call2 (fun V I => .tuple #[.agg (msL (⟨4, 2, 1, 0, 5, 0, [], [], [], Cmd.cm0, 0, []⟩ : Ms) V I).toArray, .int .i64 0]) (fun V I => OwnIn w [] V ∧ OwnIn w [] I) (fun V I => _) trivial rfl rfl (fun ρ w E => ex_call E en_palaver_msg_Take rfl rfl) (call_takeM sw (by omega) hwt rfl) fun V13 I13 hVI13 => ?_
  refine SxL.with (fun W H => own_is_slice (H.get (i := 0) rfl)) ?_
  rintro ⟨A13, k13, rfl⟩
  refine SxL.with (fun W H => own_is_slice (H.get (i := 1) rfl)) ?_
  rintro ⟨B13, l13, rfl⟩
  refine SxL.val trivial rfl rfl (fun ρ w E H => ex_move E rfl rfl) ?_
  refine SxL.val trivial rfl rfl (fun ρ w E H => ex_extract E rfl rfl rfl) ?_
  refine SxL.val (v := .int .i64 0) trivial rfl rfl (fun ρ w E H => ex_extract E rfl rfl rfl) ?_
  refine SxL.new (cs := [.int .u8 0, .int .u64 0, .int .u8 0, .int .u64 0, .int .u64 0, .int .u8 0, .string ⟨[].toArray⟩, .slice none 0 0, .slice none 0 0, .int .u8 0, .int .u32 0, .int .u8 0, .string ⟨[].toArray⟩, .string ⟨[].toArray⟩, .string ⟨[].toArray⟩, .int .u8 0, .int .u8 0, .string ⟨[].toArray⟩]) trivial rfl rfl (fun ρ w E H => ex_alloc rfl zr_palaver_api_Msg rfl) fun g2 hg2 => ?_
  refine SxL.store (i := 0) trivial rfl rfl rfl rfl rfl sz_palaver_api_Msg rfl rfl rfl ?_
  refine SxL.val trivial rfl rfl (fun ρ w E H => ex_assign E rfl rfl) ?_
  refine SxL.nil (SxN.then_ (SxC.seq (SxC.region ?_)))
  refine SxL.val trivial rfl rfl (fun ρ w E H => ex_move E rfl rfl) ?_
  refine SxL.val (v := .bool true) trivial rfl rfl (fun ρ w E H => ex_cmp E rfl rfl rfl rfl (by decide)) ?_
  refine SxL.val trivial rfl rfl (fun ρ w E H => ex_move E rfl rfl) ?_
  refine SxL.val ⟨_, _, rfl, rfl, rfl⟩ rfl rfl (fun ρ w E H => ex_move E rfl rfl) ?_
  refine SxL.val (v := .int .i64 (sw.length : Int)) ⟨_, _, rfl, rfl, rfl⟩ rfl rfl (fun ρ w E H => ex_lenT E rfl Tryz.underlying9 rfl) ?_
  refine SxL.val (v := .bool true) ⟨_, _, rfl, rfl, rfl⟩ rfl rfl (fun ρ w E H => ex_cmp E rfl rfl rfl rfl (by rw [hwl]; decide)) ?_
  refine SxL.val trivial rfl rfl (fun ρ w E H => ex_pick E rfl (t := true) rfl rfl) ?_
  refine SxL.val trivial rfl rfl (fun ρ w E H => ex_move E rfl rfl) ?_
  refine SxL.val ⟨_, _, rfl, rfl, rfl⟩ rfl rfl (fun ρ w E H => ex_move E rfl rfl) ?_
  refine SxL.val (v := .string ⟨[4, 2, 1, 5].toArray⟩) ⟨_, _, rfl, rfl, rfl⟩ rfl rfl (fun ρ w E H => ex_sliceTl (n := 9) (r := [4, 2, 1, 5]) E rfl Tryz.underlying9 rfl rfl (by omega) hwd) ?_
  refine SxL.val (v := .bool true) ⟨_, _, rfl, rfl, rfl⟩ rfl rfl (fun ρ w E H => ex_seql E rfl rfl rfl (by decide)) ?_
  refine SxL.val trivial rfl rfl (fun ρ w E H => ex_pick E rfl (t := true) rfl rfl) ?_
  refine SxL.val trivial rfl rfl (fun ρ w E H => ex_move E rfl rfl) ?_
  refine SxL.val ⟨_, _, rfl, rfl, rfl⟩ rfl rfl (fun ρ w E H => ex_move E rfl rfl) ?_
  refine SxL.val (v := .bool true) ⟨_, _, rfl, rfl, rfl⟩ rfl rfl (fun ρ w E H => ex_cmp E rfl rfl rfl rfl (by decide)) ?_
  refine SxL.val trivial rfl rfl (fun ρ w E H => ex_pick E rfl (t := true) rfl rfl) ?_
  refine SxL.val trivial rfl rfl (fun ρ w E H => ex_move E rfl rfl) ?_
  refine SxL.val ⟨_, _, rfl, rfl, rfl⟩ rfl rfl (fun ρ w E H => ex_load (part := [.int .u8 ((⟨4, 2, 1, 0, 5, 0, [], [], [], Cmd.cm0, 0, []⟩ : Ms).kind : Int), .int .u64 ((⟨4, 2, 1, 0, 5, 0, [], [], [], Cmd.cm0, 0, []⟩ : Ms).bn : Int), .int .u8 ((⟨4, 2, 1, 0, 5, 0, [], [], [], Cmd.cm0, 0, []⟩ : Ms).br : Int), .int .u64 ((⟨4, 2, 1, 0, 5, 0, [], [], [], Cmd.cm0, 0, []⟩ : Ms).base : Int), .int .u64 ((⟨4, 2, 1, 0, 5, 0, [], [], [], Cmd.cm0, 0, []⟩ : Ms).slot : Int), .int .u8 ((⟨4, 2, 1, 0, 5, 0, [], [], [], Cmd.cm0, 0, []⟩ : Ms).node : Int), .string ⟨((⟨4, 2, 1, 0, 5, 0, [], [], [], Cmd.cm0, 0, []⟩ : Ms).value).toArray⟩, .slice A13 (⟨4, 2, 1, 0, 5, 0, [], [], [], Cmd.cm0, 0, []⟩ : Ms).votes.length k13, .slice B13 (⟨4, 2, 1, 0, 5, 0, [], [], [], Cmd.cm0, 0, []⟩ : Ms).items.length l13, .int .u8 ((⟨4, 2, 1, 0, 5, 0, [], [], [], Cmd.cm0, 0, []⟩ : Ms).cmd.client : Int), .int .u32 ((⟨4, 2, 1, 0, 5, 0, [], [], [], Cmd.cm0, 0, []⟩ : Ms).cmd.seq : Int), .int .u8 ((⟨4, 2, 1, 0, 5, 0, [], [], [], Cmd.cm0, 0, []⟩ : Ms).cmd.kind : Int), .string ⟨((⟨4, 2, 1, 0, 5, 0, [], [], [], Cmd.cm0, 0, []⟩ : Ms).cmd.key).toArray⟩, .string ⟨((⟨4, 2, 1, 0, 5, 0, [], [], [], Cmd.cm0, 0, []⟩ : Ms).cmd.old).toArray⟩, .string ⟨((⟨4, 2, 1, 0, 5, 0, [], [], [], Cmd.cm0, 0, []⟩ : Ms).cmd.new).toArray⟩, .int .u8 ((⟨4, 2, 1, 0, 5, 0, [], [], [], Cmd.cm0, 0, []⟩ : Ms).cmd.set : Int), .int .u8 ((⟨4, 2, 1, 0, 5, 0, [], [], [], Cmd.cm0, 0, []⟩ : Ms).code : Int), .string ⟨((⟨4, 2, 1, 0, 5, 0, [], [], [], Cmd.cm0, 0, []⟩ : Ms).text).toArray⟩]) E (H.get (i := 0) rfl) rfl rfl Tryz.underlying33 rfl sz_palaver_api_Msg rfl rfl) ?_
  refine SxL.val ⟨_, _, rfl, rfl, rfl⟩ rfl rfl (fun ρ w E H => ex_load (part := [.int .u8 4, .int .u64 2, .int .u8 1, .int .u64 0, .int .u64 5, .int .u8 0, .string ⟨[].toArray⟩, .slice none 0 0, .slice none 0 0, .int .u8 0, .int .u32 0, .int .u8 0, .string ⟨[].toArray⟩, .string ⟨[].toArray⟩, .string ⟨[].toArray⟩, .int .u8 0, .int .u8 0, .string ⟨[].toArray⟩]) E (H.get (i := 3) rfl) rfl rfl Tryz.underlying33 rfl sz_palaver_api_Msg rfl rfl) ?_
  refine SxL.callB (v := .bool true) ⟨_, _, rfl, rfl, rfl⟩ rfl rfl (fun ρ w E => ex_call E en_palaver_msg_Same rfl rfl) (fun w H => (same_any (⟨4, 2, 1, 0, 5, 0, [], [], [], Cmd.cm0, 0, []⟩ : Ms) (⟨4, 2, 1, 0, 5, 0, [], [], [], Cmd.cm0, 0, []⟩ : Ms) A13 B13 none none k13 l13 0 0 w ⟨own_read voL_len (by decide) (H.get (i := 1) rfl), own_read imL_len (by decide) (H.get (i := 2) rfl)⟩ (none_rows _ _ rfl rfl) (by decide) (by decide)).mono fun _ _ h => ⟨by rw [h.1]; simp, h.2⟩) ?_
  refine SxL.val trivial rfl rfl (fun ρ w E H => ex_pick E rfl (t := true) rfl rfl) ?_
  refine SxL.val trivial rfl rfl (fun ρ w E H => ex_move E rfl rfl) ?_
  refine SxL.val ⟨_, _, rfl, rfl, rfl⟩ rfl rfl (fun ρ w E H => ex_build (cs := [.int .u8 0, .int .u64 0, .int .u8 0, .int .u64 0, .int .u64 0, .int .u8 0, .string ⟨[].toArray⟩, .slice none 0 0, .slice none 0 0, .int .u8 0, .int .u32 0, .int .u8 0, .string ⟨[].toArray⟩, .string ⟨[].toArray⟩, .string ⟨[].toArray⟩, .int .u8 0, .int .u8 0, .string ⟨[].toArray⟩]) E rfl rfl (by kernel_rfl)) ?_
  refine SxL.callB (v := .int .i64 2) ⟨_, _, rfl, rfl, rfl⟩ rfl rfl (fun ρ w E => ex_call E en_palaver_msg_Check rfl rfl) (fun w H => (check_any (ms0 0) none none 0 0 w (ms0_fits 0 (by decide)) ((ms0_lim 0).small (ms0_fits 0 (by decide))) (none_rows _ _ rfl rfl)).mono fun _ _ h => ⟨by rw [h.1, ms0_check]; rfl, h.2⟩) ?_
  refine SxL.val (v := .bool true) ⟨_, _, rfl, rfl, rfl⟩ rfl rfl (fun ρ w E H => ex_cmp E rfl rfl rfl rfl (by decide)) ?_
  refine SxL.val trivial rfl rfl (fun ρ w E H => ex_pick E rfl (t := true) rfl rfl) ?_
  refine SxL.val trivial rfl rfl (fun ρ w E H => ex_move E rfl rfl) ?_
  refine SxL.val ⟨_, _, rfl, rfl, rfl⟩ rfl rfl (fun ρ w E H => ex_load (part := [.int .u8 4, .int .u64 2, .int .u8 1, .int .u64 0, .int .u64 5, .int .u8 0, .string ⟨[].toArray⟩, .slice none 0 0, .slice none 0 0, .int .u8 0, .int .u32 0, .int .u8 0, .string ⟨[].toArray⟩, .string ⟨[].toArray⟩, .string ⟨[].toArray⟩, .int .u8 0, .int .u8 0, .string ⟨[].toArray⟩]) E (H.get (i := 3) rfl) rfl rfl Tryz.underlying33 rfl sz_palaver_api_Msg rfl rfl) ?_
  refine SxL.callB (v := .int .i64 0) ⟨_, _, rfl, rfl, rfl⟩ rfl rfl (fun ρ w E => ex_call E en_palaver_msg_Check rfl rfl) (fun w H => (check_any (⟨4, 2, 1, 0, 5, 0, [], [], [], Cmd.cm0, 0, []⟩ : Ms) none none 0 0 w wm_fits (wm_lim.small wm_fits) (none_rows _ _ rfl rfl)).mono fun _ _ h => ⟨by rw [h.1, wm_check]; rfl, h.2⟩) ?_
  refine SxL.val (v := .bool true) ⟨_, _, rfl, rfl, rfl⟩ rfl rfl (fun ρ w E H => ex_cmp E rfl rfl rfl rfl (by decide)) ?_
  refine SxL.val trivial rfl rfl (fun ρ w E H => ex_pick E rfl (t := true) rfl rfl) ?_
  refine SxL.val trivial rfl rfl (fun ρ w E H => ex_assign E rfl rfl) ?_
  refine SxL.nil (SxN.then_ (SxC.ret ?_))
  refine SxX.done (.bool true) (fun a w K H => res1 K rfl rfl) (fun w H => ?_)
  exact ⟨rfl, H.toBelow ⟨(fun g hg => by rw [List.mem_singleton.1 hg]; exact hg2), hVI13.1.fresh, hVI13.2.fresh, (fun g hg => by rw [List.mem_singleton.1 hg]; exact hg1), trivial⟩⟩
end Go.Proofs.YteiaiilfekojfaaGreat.Msg
end
section
set_option linter.unusedVariables false
set_option linter.unusedSimpArgs false
namespace Go.Proofs.YteiaiilfekojfaaGreat.Net
open Go.RowKit Sx Wire DrawInv
open Msg
def takeN (bag : List Pa) (M : CutM) (f t : Nat) (k : Int) : List Pa × (Nat × Nat × Ms) × Nat :=
  if apartB f t = true then (if cutB M f t = true then (bag, (0, 0, ms0 0), 13) else match findO bag f t k with
    | none => (bag, (0, 0, ms0 0), 11)
    | some i => if (takeM ((bag[i]?.map (·.bytes)).getD [])).2 ≠ 0 then (bag, (0, 0, ms0 0), (takeM ((bag[i]?.map (·.bytes)).getD [])).2) else (bag.eraseIdx i, (f, t, (takeM ((bag[i]?.map (·.bytes)).getD [])).1), 0))
  else (bag, (0, 0, ms0 0), 2)
/-- What Take hands back. -/
def TakeNRet (base g gm : Nat) (V : Value) (M : CutM) (r : List Pa × (Nat × Nat × Ms) × Nat) (w : World) (e : Ending) (w' : World) : Prop :=
  ∃ U I, e = .returned (.tuple #[.agg (.int .u8 (r.2.1.1 : Int) :: .int .u8 (r.2.1.2.1 : Int) :: msL r.2.1.2.2 U I).toArray, .int .i64 (r.2.2 : Int)]) ∧ NetTo base g gm V r.1 M w w' ∧
    w'.ownsRow w.heap.size 92 4 U r.2.1.2.2.votes.length (r.2.1.2.2.votes.flatMap voL) ∧ w'.ownsRow w.heap.size 94 2 I r.2.1.2.2.items.length (r.2.1.2.2.items.flatMap imL) ∧
    (∀ b ∈ U.ownBlock.toList, b ∉ g :: gm :: V.ownBlock.toList) ∧ (∀ b ∈ I.ownBlock.toList, b ∉ g :: gm :: V.ownBlock.toList)
theorem takeN_zero {base g gm : Nat} {V : Value} {bag : List Pa} {M : CutM} {w w' : World} {c : Nat} (h : NetTo base g gm V bag M w w') : TakeNRet base g gm V M (bag, (0, 0, ms0 0), c) w (.returned (.tuple #[.agg #[.int .u8 0, .int .u8 0, .int .u8 0, .int .u64 0, .int .u8 0, .int .u64 0, .int .u64 0, .int .u8 0, .string ⟨[].toArray⟩, .slice none 0 0, .slice none 0 0, .int .u8 0, .int .u32 0, .int .u8 0, .string ⟨[].toArray⟩, .string ⟨[].toArray⟩, .string ⟨[].toArray⟩, .int .u8 0, .int .u8 0, .string ⟨[].toArray⟩], .int .i64 (c : Int)])) w' :=
  ⟨.slice none 0 0, .slice none 0 0, rfl, h, World.ownsRow_nil _ _ _ _, World.ownsRow_nil _ _ _ _, (fun b hb => by simp [Value.ownBlock] at hb), (fun b hb => by simp [Value.ownBlock] at hb)⟩

set_option maxRecDepth 100000 in
set_option maxHeartbeats 4000000 in
theorem take_any (base g gm : Nat) (V : Value) (bag : List Pa) (M : CutM) (f t : Nat) (k : Int) (w : World) (hn : (netF base g gm V bag M).φ w) (hb512 : bag.length ≤ 512) (hT : AllT M) (hby : ∀ p ∈ bag, p.bytes.length ≤ 100000) : Calls Tryz.prog 23 #[.pointer (some ⟨g, 0, none⟩), .int .u8 (f : Int), .int .u8 (t : Int), .int .i64 (k)] w fun e w' => TakeNRet base g gm V M (takeN bag M f t k) w e w' := by
  obtain ⟨Ab, cb, rfl⟩ := own_is_slice hn.2.1
  have hv0 : OwnIn w (Value.slice Ab bag.length cb).ownBlock.toList (.slice Ab bag.length cb) := fun b hb => .inl hb
  refine sx_enter (n := 69) _ Tryz.func23 rfl rfl rfl (netF_hp hn) ?_
  refine SxC.seq (SxC.region ?_)
  refine SxL.new (cs := [.int .u8 0, .int .u8 0, .int .u8 0, .int .u64 0, .int .u8 0, .int .u64 0, .int .u64 0, .int .u8 0, .string ⟨[].toArray⟩, .slice none 0 0, .slice none 0 0, .int .u8 0, .int .u32 0, .int .u8 0, .string ⟨[].toArray⟩, .string ⟨[].toArray⟩, .string ⟨[].toArray⟩, .int .u8 0, .int .u8 0, .string ⟨[].toArray⟩]) trivial rfl rfl (fun ρ w E H => ex_alloc rfl zr_palaver_api_Letter rfl) fun g1 hg1 => ?_
  refine SxL.val trivial rfl rfl (fun ρ w E H => ex_assign E rfl rfl) ?_
  refine SxL.nil (SxN.then_ (SxC.seq (SxC.seq (SxC.region ?_))))
  refine SxL.val trivial rfl rfl (fun ρ w E H => ex_move E rfl rfl) ?_
  refine SxL.val (v := .bool false) trivial rfl rfl (fun ρ w E H => ex_pnil E rfl Tryz.underlying48 rfl rfl rfl) ?_
  refine SxL.nil (SxN.then_ (SxC.condF rfl (SxC.skip (SxN.then_ (SxC.seq (SxC.seq (SxC.region ?_)))))))
  iterate 2 refine SxL.val trivial rfl rfl (fun ρ w E H => ex_move E rfl rfl) ?_
  refine SxL.callBB (b := (apartB f t)) trivial rfl rfl (fun ρ w E => ex_call E en_palaver_net_apart rfl rfl) (fun w H => apart_any f t w) fun c18 hc18 => ?_
  cases c18
  · refine SxL.val (v := .bool true) trivial rfl rfl (fun ρ w E H => ex_not (t := false) E rfl rfl) ?_
    refine SxL.nil (SxN.then_ (SxC.condT rfl (SxC.seq (SxC.region ?_))))
    refine SxL.val trivial rfl rfl (fun ρ w E H => ex_build (cs := [.int .u8 0, .int .u8 0, .int .u8 0, .int .u64 0, .int .u8 0, .int .u64 0, .int .u64 0, .int .u8 0, .string ⟨[].toArray⟩, .slice none 0 0, .slice none 0 0, .int .u8 0, .int .u32 0, .int .u8 0, .string ⟨[].toArray⟩, .string ⟨[].toArray⟩, .string ⟨[].toArray⟩, .int .u8 0, .int .u8 0, .string ⟨[].toArray⟩]) E rfl rfl (by kernel_rfl)) ?_
    refine SxL.storeX (i := 0) [.int .u8 0, .int .u8 0, .int .u8 0, .int .u64 0, .int .u8 0, .int .u64 0, .int .u64 0, .int .u8 0, .string ⟨[].toArray⟩, .slice none 0 0, .slice none 0 0, .int .u8 0, .int .u32 0, .int .u8 0, .string ⟨[].toArray⟩, .string ⟨[].toArray⟩, .string ⟨[].toArray⟩, .int .u8 0, .int .u8 0, .string ⟨[].toArray⟩] trivial rfl rfl rfl rfl rfl sz_palaver_api_Letter rfl rfl rfl (putL_all _ _ rfl) ?_
    refine SxL.val trivial rfl rfl (fun ρ w E H => ex_assign E rfl rfl) ?_
    refine SxL.nil (SxN.then_ (SxC.ret (SxX.thenR ?_)))
    refine SxX.done _ (fun a w K H => resM K [.agg #[.int .u8 0, .int .u8 0, .int .u8 0, .int .u64 0, .int .u8 0, .int .u64 0, .int .u64 0, .int .u8 0, .string ⟨[].toArray⟩, .slice none 0 0, .slice none 0 0, .int .u8 0, .int .u32 0, .int .u8 0, .string ⟨[].toArray⟩, .string ⟨[].toArray⟩, .string ⟨[].toArray⟩, .int .u8 0, .int .u8 0, .string ⟨[].toArray⟩], .int .i64 2] rfl rfl ⟨⟨_, rfl, blk_loadVar (H.get (i := 0) rfl) Tryz.underlying59 rfl sz_palaver_api_Letter⟩, rfl, trivial⟩) (fun w H => ?_)
    have hq : takeN bag M f t k = (bag, (0, 0, ms0 0), 2) := by unfold takeN; rw [if_neg (by rw [hc18]; decide)]
    rw [hq]
    exact takeN_zero ⟨_, ⟨H.get (i := 1) rfl, H.get (i := 2) rfl, H.get (i := 3) rfl⟩, hv0, H.toOuts _ ⟨(fun b hb => by rw [List.mem_singleton.1 hb]; exact .inr hg1), (fun b hb => by rw [List.mem_singleton.1 hb]; exact .inl (by simp)), (fun b hb => (hv0.in_ b hb).imp (fun h => List.mem_cons_of_mem _ (List.mem_cons_of_mem _ h)) id), (fun b hb => .inl (by rw [List.mem_singleton.1 hb]; simp)), trivial⟩⟩
  · refine SxL.val (v := .bool false) trivial rfl rfl (fun ρ w E H => ex_not (t := true) E rfl rfl) ?_
    refine SxL.nil (SxN.then_ (SxC.condF rfl (SxC.skip (SxN.then_ (SxC.seq (SxC.seq (SxC.region ?_)))))))
    iterate 3 refine SxL.val trivial rfl rfl (fun ρ w E H => ex_move E rfl rfl) ?_
    refine SxL.callBB (b := (cutB M f t)) trivial rfl rfl (fun ρ w E => ex_call E en_palaver_net_Net_IsCut rfl rfl) (fun w H => iscut_any base g gm _ bag M f t w ⟨H.get (i := 1) rfl, H.get (i := 2) rfl, H.get (i := 3) rfl⟩ hT) fun c24 hc24 => ?_
    refine SxL.nil (SxN.then_ ?_)
    cases c24
    · refine SxC.condF rfl (SxC.skip (SxN.then_ (SxC.seq ?_)))
      rcases hfo : findO bag f t k with _ | i
      · refine SxC.region ?_
        iterate 4 refine SxL.val trivial rfl rfl (fun ρ w E H => ex_move E rfl rfl) ?_
        refine SxL.callB (v := .tuple #[.int .i64 0, .int .i64 11]) trivial rfl rfl (fun ρ w E => ex_call E en_palaver_net_Net_find rfl rfl) (fun w H => (find_any base g gm Ab cb bag M f t k w ⟨H.get (i := 1) rfl, H.get (i := 2) rfl, H.get (i := 3) rfl⟩ hb512).mono fun _ _ h => ⟨by rw [h.1, hfo]; rfl, h.2⟩) ?_
        refine SxL.val trivial rfl rfl (fun ρ w E H => ex_move E rfl rfl) ?_
        refine SxL.val (v := .int .i64 0) trivial rfl rfl (fun ρ w E H => ex_extract E rfl rfl rfl) ?_
        refine SxL.val (v := .int .i64 11) trivial rfl rfl (fun ρ w E H => ex_extract E rfl rfl rfl) ?_
        iterate 2 refine SxL.val trivial rfl rfl (fun ρ w E H => ex_assign E rfl rfl) ?_
        refine SxL.nil (SxN.then_ (SxC.seq (SxC.seq (SxC.region ?_))))
        refine SxL.val trivial rfl rfl (fun ρ w E H => ex_move E rfl rfl) ?_
        refine SxL.val (v := .bool true) trivial rfl rfl (fun ρ w E H => ex_cmp E rfl rfl rfl rfl (by decide)) ?_
        refine SxL.nil (SxN.then_ (SxC.condT rfl (SxC.seq (SxC.region ?_))))
        refine SxL.val trivial rfl rfl (fun ρ w E H => ex_build (cs := [.int .u8 0, .int .u8 0, .int .u8 0, .int .u64 0, .int .u8 0, .int .u64 0, .int .u64 0, .int .u8 0, .string ⟨[].toArray⟩, .slice none 0 0, .slice none 0 0, .int .u8 0, .int .u32 0, .int .u8 0, .string ⟨[].toArray⟩, .string ⟨[].toArray⟩, .string ⟨[].toArray⟩, .int .u8 0, .int .u8 0, .string ⟨[].toArray⟩]) E rfl rfl (by kernel_rfl)) ?_
        refine SxL.val trivial rfl rfl (fun ρ w E H => ex_move E rfl rfl) ?_
        refine SxL.storeX (i := 0) [.int .u8 0, .int .u8 0, .int .u8 0, .int .u64 0, .int .u8 0, .int .u64 0, .int .u64 0, .int .u8 0, .string ⟨[].toArray⟩, .slice none 0 0, .slice none 0 0, .int .u8 0, .int .u32 0, .int .u8 0, .string ⟨[].toArray⟩, .string ⟨[].toArray⟩, .string ⟨[].toArray⟩, .int .u8 0, .int .u8 0, .string ⟨[].toArray⟩] trivial rfl rfl rfl rfl rfl sz_palaver_api_Letter rfl rfl rfl (putL_all _ _ rfl) ?_
        refine SxL.val trivial rfl rfl (fun ρ w E H => ex_assign E rfl rfl) ?_
        refine SxL.nil (SxN.then_ (SxC.ret (SxX.thenR ?_)))
        refine SxX.done _ (fun a w K H => resM K [.agg #[.int .u8 0, .int .u8 0, .int .u8 0, .int .u64 0, .int .u8 0, .int .u64 0, .int .u64 0, .int .u8 0, .string ⟨[].toArray⟩, .slice none 0 0, .slice none 0 0, .int .u8 0, .int .u32 0, .int .u8 0, .string ⟨[].toArray⟩, .string ⟨[].toArray⟩, .string ⟨[].toArray⟩, .int .u8 0, .int .u8 0, .string ⟨[].toArray⟩], .int .i64 11] rfl rfl ⟨⟨_, rfl, blk_loadVar (H.get (i := 0) rfl) Tryz.underlying59 rfl sz_palaver_api_Letter⟩, rfl, trivial⟩) (fun w H => ?_)
        have hq : takeN bag M f t k = (bag, (0, 0, ms0 0), 11) := by unfold takeN; rw [if_pos hc18, if_neg (by rw [hc24]; decide), hfo]
        rw [hq]
        exact takeN_zero ⟨_, ⟨H.get (i := 1) rfl, H.get (i := 2) rfl, H.get (i := 3) rfl⟩, hv0, H.toOuts _ ⟨(fun b hb => by rw [List.mem_singleton.1 hb]; exact .inr hg1), (fun b hb => by rw [List.mem_singleton.1 hb]; exact .inl (by simp)), (fun b hb => (hv0.in_ b hb).imp (fun h => List.mem_cons_of_mem _ (List.mem_cons_of_mem _ h)) id), (fun b hb => .inl (by rw [List.mem_singleton.1 hb]; simp)), trivial⟩⟩
      · obtain ⟨hil, hhas⟩ := findO_lt hfo
        refine SxC.region ?_
        iterate 4 refine SxL.val trivial rfl rfl (fun ρ w E H => ex_move E rfl rfl) ?_
        refine SxL.callB (v := .tuple #[.int .i64 (i : Int), .int .i64 0]) trivial rfl rfl (fun ρ w E => ex_call E en_palaver_net_Net_find rfl rfl) (fun w H => (find_any base g gm Ab cb bag M f t k w ⟨H.get (i := 1) rfl, H.get (i := 2) rfl, H.get (i := 3) rfl⟩ hb512).mono fun _ _ h => ⟨by rw [h.1, hfo]; rfl, h.2⟩) ?_
        refine SxL.val trivial rfl rfl (fun ρ w E H => ex_move E rfl rfl) ?_
        refine SxL.val (v := .int .i64 (i : Int)) trivial rfl rfl (fun ρ w E H => ex_extract E rfl rfl rfl) ?_
        refine SxL.val (v := .int .i64 0) trivial rfl rfl (fun ρ w E H => ex_extract E rfl rfl rfl) ?_
        iterate 2 refine SxL.val trivial rfl rfl (fun ρ w E H => ex_assign E rfl rfl) ?_
        refine SxL.nil (SxN.then_ (SxC.seq (SxC.seq (SxC.region ?_))))
        refine SxL.val trivial rfl rfl (fun ρ w E H => ex_move E rfl rfl) ?_
        refine SxL.val (v := .bool false) trivial rfl rfl (fun ρ w E H => ex_cmp E rfl rfl rfl rfl (by decide)) ?_
        refine SxL.nil (SxN.then_ (SxC.condF rfl (SxC.skip (SxN.then_ (SxC.seq ?_)))))
        obtain ⟨pb, hx⟩ := hasB_get hhas
        have hpb := hby _ (List.mem_of_getElem? hx)
        dsimp only at hpb
        obtain ⟨⟨⟨tk, tn, tr, tb, ts, td, tv, tvl, til, ⟨xa, xb, xk, xs, xt, xu, xz⟩, tc, tx⟩, te⟩, htm⟩ : ∃ x, takeM pb = x := ⟨_, rfl⟩
        have htm2 : takeM ((bag[i]?.map (·.bytes)).getD []) = (⟨tk, tn, tr, tb, ts, td, tv, tvl, til, ⟨xa, xb, xk, xs, xt, xu, xz⟩, tc, tx⟩, te) := by rw [hx]; exact htm
        obtain ⟨ad, hAd⟩ : ∃ ad, Ab = some ad := by
          obtain ⟨ad, h, -, -⟩ := (own_read hn.2.1).row hx
          exact ⟨ad, h⟩
        subst hAd
        refine SxC.region ?_
        refine SxL.val trivial rfl rfl (fun ρ w E H => ex_move E rfl rfl) ?_
        refine SxL.val (v := .pointer (some ⟨g, 0, none⟩)) trivial rfl rfl (fun ρ w E H => ex_nilCheck E rfl rfl) ?_
        refine SxL.val (v := .pointer (some ⟨g, 0, none⟩)) trivial rfl rfl (fun ρ w E H => ex_field E rfl fa_palaver_net_Net_0 rfl rfl) ?_
        refine SxL.val trivial rfl rfl (fun ρ w E H => ex_load1 E (H.get (i := 1) rfl) rfl rfl Tryz.underlying128 rfl rfl) ?_
        refine SxL.val trivial rfl rfl (fun ρ w E H => ex_move E rfl rfl) ?_
        refine SxL.val (v := .pointer (some (ad.add (i * 3)))) trivial rfl rfl (fun ρ w E H => ex_index (i := i) E rfl Tryz.underlying128 sz_palaver_net_parcel rfl rfl hil) ?_
        refine SxL.val (v := .pointer (some ((ad.add (i * 3)).add 2))) trivial rfl rfl (fun ρ w E H => ex_fieldA E rfl fa_palaver_net_parcel_1 rfl) ?_
        refine SxL.val (v := .string ⟨pb.toArray⟩) trivial rfl rfl (fun ρ w E H => ex_loadXc E ((own_read (H.get (i := 2) rfl)).rowA hx) 2 rfl rfl rfl Tryz.underlying9 rfl) ?_
        refine SxL.call2 (fun U I => .tuple #[.agg (msL ⟨tk, tn, tr, tb, ts, td, tv, tvl, til, ⟨xa, xb, xk, xs, xt, xu, xz⟩, tc, tx⟩ U I).toArray, .int .i64 (te : Int)]) (fun U I => OwnIn w [] U ∧ OwnIn w [] I) (fun U I => _) trivial rfl rfl (fun ρ w E => ex_call E en_palaver_msg_Take rfl rfl) (call_takeM pb hpb htm rfl) fun U IT hUI => ?_
        refine SxL.with (fun W H => own_is_slice (H.get (i := 0) rfl)) ?_
        rintro ⟨UA, uk, rfl⟩
        refine SxL.with (fun W H => own_is_slice (H.get (i := 1) rfl)) ?_
        rintro ⟨IA, ik, rfl⟩
        refine SxL.val trivial rfl rfl (fun ρ w E H => ex_move E rfl rfl) ?_
        refine SxL.val trivial rfl rfl (fun ρ w E H => ex_extract E rfl rfl rfl) ?_
        refine SxL.val (v := .int .i64 (te : Int)) trivial rfl rfl (fun ρ w E H => ex_extract E rfl rfl rfl) ?_
        refine SxL.new (cs := [.int .u8 0, .int .u64 0, .int .u8 0, .int .u64 0, .int .u64 0, .int .u8 0, .string ⟨[].toArray⟩, .slice none 0 0, .slice none 0 0, .int .u8 0, .int .u32 0, .int .u8 0, .string ⟨[].toArray⟩, .string ⟨[].toArray⟩, .string ⟨[].toArray⟩, .int .u8 0, .int .u8 0, .string ⟨[].toArray⟩]) trivial rfl rfl (fun ρ w E H => ex_alloc rfl zr_palaver_api_Msg rfl) fun g2 hg2 => ?_
        refine SxL.storeX (i := 0) [.int .u8 (tk : Int), .int .u64 (tn : Int), .int .u8 (tr : Int), .int .u64 (tb : Int), .int .u64 (ts : Int), .int .u8 (td : Int), .string ⟨tv.toArray⟩, .slice UA tvl.length uk, .slice IA til.length ik, .int .u8 (xa : Int), .int .u32 (xb : Int), .int .u8 (xk : Int), .string ⟨xs.toArray⟩, .string ⟨xt.toArray⟩, .string ⟨xu.toArray⟩, .int .u8 (xz : Int), .int .u8 (tc : Int), .string ⟨tx.toArray⟩] trivial rfl rfl rfl rfl rfl sz_palaver_api_Msg rfl rfl rfl (putL_all _ _ rfl) ?_
        refine SxL.val trivial rfl rfl (fun ρ w E H => ex_assign E rfl rfl) ?_
        refine SxL.nil (SxN.then_ (SxC.seq (SxC.seq (SxC.region ?_))))
        refine SxL.val trivial rfl rfl (fun ρ w E H => ex_move E rfl rfl) ?_
        refine SxL.valB trivial rfl rfl (fun ρ w E H => ex_cmp E rfl rfl rfl rfl rfl) fun c51 hc51 => ?_
        refine SxL.nil (SxN.then_ ?_)
        cases c51
        · refine SxC.condF rfl (SxC.skip (SxN.then_ (SxC.seq (SxC.region ?_))))
          iterate 2 refine SxL.val trivial rfl rfl (fun ρ w E H => ex_move E rfl rfl) ?_
          refine SxL.val (v := .pointer (some ⟨g, 0, none⟩)) trivial rfl rfl (fun ρ w E H => ex_nilCheck E rfl rfl) ?_
          refine SxL.val (v := .pointer (some ⟨g, 0, none⟩)) trivial rfl rfl (fun ρ w E H => ex_field E rfl fa_palaver_net_Net_0 rfl rfl) ?_
          refine SxL.val trivial rfl rfl (fun ρ w E H => ex_load1 E (H.get (i := 4) rfl) rfl rfl Tryz.underlying128 rfl rfl) ?_
          iterate 2 refine SxL.val trivial rfl rfl (fun ρ w E H => ex_move E rfl rfl) ?_
          refine SxL.val (v := .int .i64 ((i + 1 : Nat) : Int)) trivial rfl rfl (fun ρ w E H => ex_add E rfl rfl rfl (by rw [IntKind.wrap_i64]; omega)) ?_
          refine SxL.call (σ := Value) (fun s => s) (fun s => OwnIn w (Value.slice (some ad) bag.length cb).ownBlock.toList s) (fun s => _) trivial rfl rfl (fun ρ w E => ex_call E en_slices_Delete_palaver_net_parcel_palaver_net_parcel rfl rfl) (callGrow (i := 5) (m' := bag.length - 1) (xs' := ((bag.eraseIdx i).flatMap paL)) rfl hv0 (fun w H => del_any (H.get (i := 5) rfl) hil)) fun v62 hv62 => ?_
          rw [show bag.length - 1 = (bag.eraseIdx i).length by rw [List.length_eraseIdx, if_pos hil]]
          refine SxL.with (fun W H => own_is_slice (H.get (i := 5) rfl)) ?_
          rintro ⟨A62, k62, rfl⟩
          refine SxL.val (v := .pointer (some ⟨g, 0, none⟩)) trivial rfl rfl (fun ρ w E H => ex_nilCheck E rfl rfl) ?_
          refine SxL.val (v := .pointer (some ⟨g, 0, none⟩)) trivial rfl rfl (fun ρ w E H => ex_field E rfl fa_palaver_net_Net_0 rfl rfl) ?_
          refine SxL.storeX (i := 4) [.slice A62 ((bag.eraseIdx i).length) k62, .map (some gm)] trivial rfl rfl rfl rfl rfl sz_net_parcel rfl rfl rfl rfl ?_
          refine SxL.nil (SxN.then_ (SxC.seq (SxC.region ?_)))
          iterate 2 refine SxL.val trivial rfl rfl (fun ρ w E H => ex_move E rfl rfl) ?_
          refine SxL.val trivial rfl rfl (fun ρ w E H => ex_load (part := [.int .u8 (tk : Int), .int .u64 (tn : Int), .int .u8 (tr : Int), .int .u64 (tb : Int), .int .u64 (ts : Int), .int .u8 (td : Int), .string ⟨tv.toArray⟩, .slice UA tvl.length uk, .slice IA til.length ik, .int .u8 (xa : Int), .int .u32 (xb : Int), .int .u8 (xk : Int), .string ⟨xs.toArray⟩, .string ⟨xt.toArray⟩, .string ⟨xu.toArray⟩, .int .u8 (xz : Int), .int .u8 (tc : Int), .string ⟨tx.toArray⟩]) E (H.get (i := 0) rfl) rfl rfl Tryz.underlying33 rfl sz_palaver_api_Msg rfl rfl) ?_
          refine SxL.val trivial rfl rfl (fun ρ w E H => ex_build (cs := [.int .u8 (f : Int), .int .u8 (t : Int), .int .u8 (tk : Int), .int .u64 (tn : Int), .int .u8 (tr : Int), .int .u64 (tb : Int), .int .u64 (ts : Int), .int .u8 (td : Int), .string ⟨tv.toArray⟩, .slice UA tvl.length uk, .slice IA til.length ik, .int .u8 (xa : Int), .int .u32 (xb : Int), .int .u8 (xk : Int), .string ⟨xs.toArray⟩, .string ⟨xt.toArray⟩, .string ⟨xu.toArray⟩, .int .u8 (xz : Int), .int .u8 (tc : Int), .string ⟨tx.toArray⟩]) E rfl rfl (by kernel_rfl)) ?_
          refine SxL.storeX (i := 3) [.int .u8 (f : Int), .int .u8 (t : Int), .int .u8 (tk : Int), .int .u64 (tn : Int), .int .u8 (tr : Int), .int .u64 (tb : Int), .int .u64 (ts : Int), .int .u8 (td : Int), .string ⟨tv.toArray⟩, .slice UA tvl.length uk, .slice IA til.length ik, .int .u8 (xa : Int), .int .u32 (xb : Int), .int .u8 (xk : Int), .string ⟨xs.toArray⟩, .string ⟨xt.toArray⟩, .string ⟨xu.toArray⟩, .int .u8 (xz : Int), .int .u8 (tc : Int), .string ⟨tx.toArray⟩] trivial rfl rfl rfl rfl rfl sz_palaver_api_Letter rfl rfl rfl (putL_all _ _ rfl) ?_
          refine SxL.val trivial rfl rfl (fun ρ w E H => ex_assign E rfl rfl) ?_
          refine SxL.nil (SxN.then_ (SxC.ret ?_))
          refine SxX.done _ (fun a w K H => resM K [.agg #[.int .u8 (f : Int), .int .u8 (t : Int), .int .u8 (tk : Int), .int .u64 (tn : Int), .int .u8 (tr : Int), .int .u64 (tb : Int), .int .u64 (ts : Int), .int .u8 (td : Int), .string ⟨tv.toArray⟩, .slice UA tvl.length uk, .slice IA til.length ik, .int .u8 (xa : Int), .int .u32 (xb : Int), .int .u8 (xk : Int), .string ⟨xs.toArray⟩, .string ⟨xt.toArray⟩, .string ⟨xu.toArray⟩, .int .u8 (xz : Int), .int .u8 (tc : Int), .string ⟨tx.toArray⟩], .int .i64 0] rfl rfl ⟨⟨_, rfl, blk_loadVar (H.get (i := 3) rfl) Tryz.underlying59 rfl sz_palaver_api_Letter⟩, rfl, trivial⟩) (fun w H => ?_)
          have hq : takeN bag M f t k = (bag.eraseIdx i, (f, t, ⟨tk, tn, tr, tb, ts, td, tv, tvl, til, ⟨xa, xb, xk, xs, xt, xu, xz⟩, tc, tx⟩), 0) := by unfold takeN; rw [if_pos hc18, if_neg (by rw [hc24]; decide), hfo]; dsimp only; rw [htm2, if_neg (by have h := hc51; simp [cmpB] at h; simpa using h)]
          rw [hq]
          have hlt := netF_lt hn
          exact ⟨_, _, rfl, ⟨_, ⟨H.get (i := 4) rfl, H.get (i := 5) rfl, H.get (i := 6) rfl⟩, hv62, H.toOuts _ ⟨(fun b hb => by rw [List.mem_singleton.1 hb]; exact .inr hg2), (fun b hb => .inr (hUI.1.fresh b hb)), (fun b hb => .inr (hUI.2.fresh b hb)), (fun b hb => by rw [List.mem_singleton.1 hb]; exact .inr hg1), (fun b hb => by rw [List.mem_singleton.1 hb]; exact .inl (by simp)), (fun b hb => (hv62.in_ b hb).imp (fun h => List.mem_cons_of_mem _ (List.mem_cons_of_mem _ h)) id), (fun b hb => .inl (by rw [List.mem_singleton.1 hb]; simp)), trivial⟩⟩, H.get (i := 1) rfl, H.get (i := 2) rfl, (fun b hb hm => by have h1 := hlt b hm; have h2 := (hUI.1 b hb).elim (fun h => by cases h) id; omega), (fun b hb hm => by have h1 := hlt b hm; have h2 := (hUI.2 b hb).elim (fun h => by cases h) id; omega)⟩
        · refine SxC.condT rfl (SxC.seq (SxC.region ?_))
          refine SxL.val trivial rfl rfl (fun ρ w E H => ex_build (cs := [.int .u8 0, .int .u8 0, .int .u8 0, .int .u64 0, .int .u8 0, .int .u64 0, .int .u64 0, .int .u8 0, .string ⟨[].toArray⟩, .slice none 0 0, .slice none 0 0, .int .u8 0, .int .u32 0, .int .u8 0, .string ⟨[].toArray⟩, .string ⟨[].toArray⟩, .string ⟨[].toArray⟩, .int .u8 0, .int .u8 0, .string ⟨[].toArray⟩]) E rfl rfl (by kernel_rfl)) ?_
          refine SxL.val trivial rfl rfl (fun ρ w E H => ex_move E rfl rfl) ?_
          refine SxL.storeX (i := 3) [.int .u8 0, .int .u8 0, .int .u8 0, .int .u64 0, .int .u8 0, .int .u64 0, .int .u64 0, .int .u8 0, .string ⟨[].toArray⟩, .slice none 0 0, .slice none 0 0, .int .u8 0, .int .u32 0, .int .u8 0, .string ⟨[].toArray⟩, .string ⟨[].toArray⟩, .string ⟨[].toArray⟩, .int .u8 0, .int .u8 0, .string ⟨[].toArray⟩] trivial rfl rfl rfl rfl rfl sz_palaver_api_Letter rfl rfl rfl (putL_all _ _ rfl) ?_
          refine SxL.val trivial rfl rfl (fun ρ w E H => ex_assign E rfl rfl) ?_
          refine SxL.nil (SxN.then_ (SxC.ret (SxX.thenR ?_)))
          refine SxX.done _ (fun a w K H => resM K [.agg #[.int .u8 0, .int .u8 0, .int .u8 0, .int .u64 0, .int .u8 0, .int .u64 0, .int .u64 0, .int .u8 0, .string ⟨[].toArray⟩, .slice none 0 0, .slice none 0 0, .int .u8 0, .int .u32 0, .int .u8 0, .string ⟨[].toArray⟩, .string ⟨[].toArray⟩, .string ⟨[].toArray⟩, .int .u8 0, .int .u8 0, .string ⟨[].toArray⟩], .int .i64 (te : Int)] rfl rfl ⟨⟨_, rfl, blk_loadVar (H.get (i := 3) rfl) Tryz.underlying59 rfl sz_palaver_api_Letter⟩, rfl, trivial⟩) (fun w H => ?_)
          have hq : takeN bag M f t k = (bag, (0, 0, ms0 0), te) := by unfold takeN; rw [if_pos hc18, if_neg (by rw [hc24]; decide), hfo]; dsimp only; rw [htm2, if_pos (by have h := hc51; simp [cmpB] at h; simpa using h)]
          rw [hq]
          exact takeN_zero ⟨_, ⟨H.get (i := 4) rfl, H.get (i := 5) rfl, H.get (i := 6) rfl⟩, hv0, H.toOuts _ ⟨(fun b hb => by rw [List.mem_singleton.1 hb]; exact .inr hg2), (fun b hb => .inr (hUI.1.fresh b hb)), (fun b hb => .inr (hUI.2.fresh b hb)), (fun b hb => by rw [List.mem_singleton.1 hb]; exact .inr hg1), (fun b hb => by rw [List.mem_singleton.1 hb]; exact .inl (by simp)), (fun b hb => (hv0.in_ b hb).imp (fun h => List.mem_cons_of_mem _ (List.mem_cons_of_mem _ h)) id), (fun b hb => .inl (by rw [List.mem_singleton.1 hb]; simp)), trivial⟩⟩
    · refine SxC.condT rfl (SxC.seq (SxC.region ?_))
      refine SxL.val trivial rfl rfl (fun ρ w E H => ex_build (cs := [.int .u8 0, .int .u8 0, .int .u8 0, .int .u64 0, .int .u8 0, .int .u64 0, .int .u64 0, .int .u8 0, .string ⟨[].toArray⟩, .slice none 0 0, .slice none 0 0, .int .u8 0, .int .u32 0, .int .u8 0, .string ⟨[].toArray⟩, .string ⟨[].toArray⟩, .string ⟨[].toArray⟩, .int .u8 0, .int .u8 0, .string ⟨[].toArray⟩]) E rfl rfl (by kernel_rfl)) ?_
      refine SxL.storeX (i := 0) [.int .u8 0, .int .u8 0, .int .u8 0, .int .u64 0, .int .u8 0, .int .u64 0, .int .u64 0, .int .u8 0, .string ⟨[].toArray⟩, .slice none 0 0, .slice none 0 0, .int .u8 0, .int .u32 0, .int .u8 0, .string ⟨[].toArray⟩, .string ⟨[].toArray⟩, .string ⟨[].toArray⟩, .int .u8 0, .int .u8 0, .string ⟨[].toArray⟩] trivial rfl rfl rfl rfl rfl sz_palaver_api_Letter rfl rfl rfl (putL_all _ _ rfl) ?_
      refine SxL.val trivial rfl rfl (fun ρ w E H => ex_assign E rfl rfl) ?_
      refine SxL.nil (SxN.then_ (SxC.ret (SxX.thenR ?_)))
      refine SxX.done _ (fun a w K H => resM K [.agg #[.int .u8 0, .int .u8 0, .int .u8 0, .int .u64 0, .int .u8 0, .int .u64 0, .int .u64 0, .int .u8 0, .string ⟨[].toArray⟩, .slice none 0 0, .slice none 0 0, .int .u8 0, .int .u32 0, .int .u8 0, .string ⟨[].toArray⟩, .string ⟨[].toArray⟩, .string ⟨[].toArray⟩, .int .u8 0, .int .u8 0, .string ⟨[].toArray⟩], .int .i64 13] rfl rfl ⟨⟨_, rfl, blk_loadVar (H.get (i := 0) rfl) Tryz.underlying59 rfl sz_palaver_api_Letter⟩, rfl, trivial⟩) (fun w H => ?_)
      have hq : takeN bag M f t k = (bag, (0, 0, ms0 0), 13) := by unfold takeN; rw [if_pos hc18, if_pos hc24]
      rw [hq]
      exact takeN_zero ⟨_, ⟨H.get (i := 1) rfl, H.get (i := 2) rfl, H.get (i := 3) rfl⟩, hv0, H.toOuts _ ⟨(fun b hb => by rw [List.mem_singleton.1 hb]; exact .inr hg1), (fun b hb => by rw [List.mem_singleton.1 hb]; exact .inl (by simp)), (fun b hb => (hv0.in_ b hb).imp (fun h => List.mem_cons_of_mem _ (List.mem_cons_of_mem _ h)) id), (fun b hb => .inl (by rw [List.mem_singleton.1 hb]; simp)), trivial⟩⟩
end Go.Proofs.YteiaiilfekojfaaGreat.Net
end
section
set_option linter.unusedVariables false
set_option linter.unusedSimpArgs false
namespace Go.Proofs.YteiaiilfekojfaaGreat.Net
open Go.RowKit Sx Wire DrawInv
open Msg
set_option maxRecDepth 100000 in
set_option maxHeartbeats 4000000 in
theorem new_any   (w : World) : Calls Tryz.prog 22 #[] w fun e w' => ∃ g gm, e = .returned (.pointer (some ⟨g, 0, none⟩)) ∧ (netF w.heap.size g gm (.slice none 0 0) [] []).φ w' ∧ w.heap.size ≤ g ∧ w.heap.size ≤ gm ∧ Below w.heap.size w w' := by
  refine sx_enter (n := 4) _ Tryz.func22 rfl rfl rfl (Hp.start w) ?_
  refine SxC.seq (SxC.region ?_)
  refine SxL.val trivial rfl rfl (fun ρ w E H => ex_assign E rfl rfl) ?_
  refine SxL.nil (SxN.then_ (SxC.seq (SxC.region ?_)))
  refine SxL.newG (σ := Nat) (fun s => .map (some s)) (fun s => w.heap.size ≤ s) (fun s => _) trivial rfl rfl (fun ρ w E H => Hp.newM E H twoV rfl) fun gm hgm => ?_
  refine SxL.val trivial rfl rfl (fun ρ w E H => ex_build (cs := [.slice none 0 0, .map (some gm)]) E rfl rfl (by kernel_rfl)) ?_
  refine SxL.new (cs := [.slice none 0 0, .map (some gm)]) trivial rfl rfl (fun ρ w E H => ex_box E rfl rfl rfl) fun g1 hg1 => ?_
  refine SxL.val trivial rfl rfl (fun ρ w E H => ex_assign E rfl rfl) ?_
  refine SxL.nil (SxN.then_ (SxC.ret ?_))
  refine SxX.done (.pointer (some ⟨g1, 0, none⟩)) (fun a w K H => res1 K rfl rfl) (fun w H => ?_)
  exact ⟨_, gm, rfl, ⟨H.get (i := 0) rfl, World.ownsRow_nil _ _ _ _, H.get (i := 1) rfl⟩, hg1, hgm, H.toBelow ⟨(fun g hg => by rw [List.mem_singleton.1 hg]; exact hg1), (fun g hg => by rw [List.mem_singleton.1 hg]; exact hgm), trivial⟩⟩

end Go.Proofs.YteiaiilfekojfaaGreat.Net
end
section
set_option linter.unusedVariables false
set_option linter.unusedSimpArgs false
namespace Go.Proofs.YteiaiilfekojfaaGreat.Net
open Go.RowKit Sx Wire DrawInv
open Msg
set_option maxRecDepth 100000 in
set_option maxHeartbeats 4000000 in
theorem ask_any (s : Nat)  (w : World) : Calls Tryz.prog 24 #[.int .u64 (s : Int)] w fun e w' => e = .returned (.agg #[.int .u8 10, .int .u64 0, .int .u8 0, .int .u64 0, .int .u64 (s : Int), .int .u8 0, .string ⟨[].toArray⟩, .slice none 0 0, .slice none 0 0, .int .u8 0, .int .u32 0, .int .u8 0, .string ⟨[].toArray⟩, .string ⟨[].toArray⟩, .string ⟨[].toArray⟩, .int .u8 0, .int .u8 0, .string ⟨[].toArray⟩]) ∧ Below w.heap.size w w' := by
  refine sx_enter (n := 5) _ Tryz.func24 rfl rfl rfl (Hp.start w) ?_
  refine SxC.seq (SxC.region ?_)
  refine SxL.new (cs := [.int .u8 0, .int .u64 0, .int .u8 0, .int .u64 0, .int .u64 0, .int .u8 0, .string ⟨[].toArray⟩, .slice none 0 0, .slice none 0 0, .int .u8 0, .int .u32 0, .int .u8 0, .string ⟨[].toArray⟩, .string ⟨[].toArray⟩, .string ⟨[].toArray⟩, .int .u8 0, .int .u8 0, .string ⟨[].toArray⟩]) trivial rfl rfl (fun ρ w E H => ex_alloc rfl zr_palaver_api_Msg rfl) fun g1 hg1 => ?_
  refine SxL.nil (SxN.then_ (SxC.seq (SxC.region ?_)))
  refine SxL.val trivial rfl rfl (fun ρ w E H => ex_move E rfl rfl) ?_
  refine SxL.val trivial rfl rfl (fun ρ w E H => ex_build (cs := [.int .u8 10, .int .u64 0, .int .u8 0, .int .u64 0, .int .u64 (s : Int), .int .u8 0, .string ⟨[].toArray⟩, .slice none 0 0, .slice none 0 0, .int .u8 0, .int .u32 0, .int .u8 0, .string ⟨[].toArray⟩, .string ⟨[].toArray⟩, .string ⟨[].toArray⟩, .int .u8 0, .int .u8 0, .string ⟨[].toArray⟩]) E rfl rfl (by kernel_rfl)) ?_
  refine SxL.storeX (i := 0) [.int .u8 10, .int .u64 0, .int .u8 0, .int .u64 0, .int .u64 (s : Int), .int .u8 0, .string ⟨[].toArray⟩, .slice none 0 0, .slice none 0 0, .int .u8 0, .int .u32 0, .int .u8 0, .string ⟨[].toArray⟩, .string ⟨[].toArray⟩, .string ⟨[].toArray⟩, .int .u8 0, .int .u8 0, .string ⟨[].toArray⟩] trivial rfl rfl rfl rfl rfl sz_palaver_api_Msg rfl rfl rfl (putL_all _ _ rfl) ?_
  refine SxL.nil (SxN.then_ (SxC.ret ?_))
  refine SxX.done _ (fun a w K H => resN K [.agg #[.int .u8 10, .int .u64 0, .int .u8 0, .int .u64 0, .int .u64 (s : Int), .int .u8 0, .string ⟨[].toArray⟩, .slice none 0 0, .slice none 0 0, .int .u8 0, .int .u32 0, .int .u8 0, .string ⟨[].toArray⟩, .string ⟨[].toArray⟩, .string ⟨[].toArray⟩, .int .u8 0, .int .u8 0, .string ⟨[].toArray⟩]] rfl ⟨⟨_, rfl, blk_loadVar (H.get (i := 0) rfl) Tryz.underlying33 rfl sz_palaver_api_Msg⟩, trivial⟩) (fun w H => ?_)
  exact ⟨rfl, H.toBelow ⟨(fun g hg => by rw [List.mem_singleton.1 hg]; exact hg1), trivial⟩⟩

end Go.Proofs.YteiaiilfekojfaaGreat.Net
end
section
set_option linter.unusedVariables false
set_option linter.unusedSimpArgs false
namespace Go.Proofs.YteiaiilfekojfaaGreat.Net
open Go.RowKit Sx Wire DrawInv
open Msg
theorem mem_putF : ∀ {L : List Ft} {i : Nat} {f q : Ft}, q ∈ putF L i f → q = f ∨ q ∈ L
  | [], _, _, _, h => by cases h
  | x :: L, 0, f, q, h => by
    rcases List.mem_cons.1 h with rfl | h
    · exact .inl rfl
    · exact .inr (List.mem_cons_of_mem _ h)
  | x :: L, i + 1, f, q, h => by
    rcases List.mem_cons.1 h with rfl | h
    · exact .inr (List.mem_cons_self ..)
    · exact (mem_putF h).imp id (List.mem_cons_of_mem _)
theorem call_takeN {base g gm i f t : Nat} {k : Int} {V : Value} {bag : List Pa} {M : CutM} {w0 : World} {L : List Ft} {r : List Pa × (Nat × Nat × Ms) × Nat} (hL : nth L i = some (netF base g gm V bag M)) (hV : OwnIn w0 [] V) (hb512 : bag.length ≤ 512) (hT : AllT M) (hby : ∀ p ∈ bag, p.bytes.length ≤ 100000) (hr : takeN bag M f t k = r) :
    ∀ w, Hp w0 L w → Calls Tryz.prog 23 #[.pointer (some ⟨g, 0, none⟩), .int .u8 (f : Int), .int .u8 (t : Int), .int .i64 k] w fun E w' => ∃ (q : Value × Value × Value), E = .returned (.tuple #[.agg (.int .u8 (r.2.1.1 : Int) :: .int .u8 (r.2.1.2.1 : Int) :: msL r.2.1.2.2 q.2.1 q.2.2).toArray, .int .i64 (r.2.2 : Int)]) ∧ (OwnIn w0 [] q.1 ∧ OwnIn w0 [] q.2.1 ∧ OwnIn w0 [] q.2.2) ∧
      Hp w0 (rowX [] w0.heap.size 92 4 q.2.1 r.2.1.2.2.votes.length (r.2.1.2.2.votes.flatMap voL) :: rowX [] w0.heap.size 94 2 q.2.2 r.2.1.2.2.items.length (r.2.1.2.2.items.flatMap imL) :: putF L i (netF base g gm q.1 r.1 M)) w' := fun w H => by
  subst hr
  refine (take_any base g gm V bag M f t k w (H.get hL) hb512 hT hby).mono ?_
  rintro E w' ⟨U, I, he, ⟨V', hn, hin, hos⟩, hU, hI, hU2, hI2⟩
  have hsz : ∀ b ∈ V'.ownBlock.toList, w0.heap.size ≤ b := fun b hb => (hin b hb).elim (fun h => (hV b h).elim (fun h => by cases h) id) (fun h => Nat.le_trans H.os.size h)
  have H1 := H.chg hL (netF base g gm V' (takeN bag M f t k).1 M) hos (netF_loc _ _ _ _ _ _) (fun b hb => by
    rcases List.mem_cons.1 hb with rfl | hb
    · exact ⟨Blk.lt hn.1, .inl (List.mem_cons_self ..)⟩
    rcases List.mem_cons.1 hb with rfl | hb
    · exact ⟨hn.2.2.lt, .inl (List.mem_cons_of_mem _ (List.mem_cons_self ..))⟩
    · exact ⟨(own_lt hn.2.1 b hb).2, (hin b hb).imp (fun h => List.mem_cons_of_mem _ (List.mem_cons_of_mem _ h)) id⟩) (fun b hb => by
    rcases List.mem_cons.1 hb with rfl | hb
    · exact .inl (List.mem_cons_self ..)
    rcases List.mem_cons.1 hb with rfl | hb
    · exact .inl (List.mem_cons_of_mem _ (List.mem_cons_self ..))
    · exact .inr ((hV b hb).elim (fun h => by cases h) id)) hn
  have fU : OwnIn w0 [] U := fun b hb => .inr (Nat.le_trans H.os.size (own_lt hU b hb).1)
  have fI : OwnIn w0 [] I := fun b hb => .inr (Nat.le_trans H.os.size (own_lt hI b hb).1)
  have hlt := netF_lt (H.get hL : (netF base g gm V bag M).φ w)
  have far : ∀ b, w.heap.size ≤ b → b ∉ V'.ownBlock.toList → ∀ q ∈ putF L i (netF base g gm V' (takeN bag M f t k).1 M), b ∉ q.fp := fun b hb hbV q hq hbq => by
    rcases mem_putF hq with rfl | hq
    · rcases List.mem_cons.1 hbq with rfl | hbq
      · have := hlt b (List.mem_cons_self ..); omega
      rcases List.mem_cons.1 hbq with rfl | hbq
      · have := hlt b (List.mem_cons_of_mem _ (List.mem_cons_self ..)); omega
      · exact hbV hbq
    · have := (H.ok q hq).2.1 b hbq; omega
  refine ⟨(V', U, I), he, ⟨fun b hb => .inr (hsz b hb), fU, fI⟩, ?_⟩
  have H2 := H1.know (rowX [] w0.heap.size 94 2 I (takeN bag M f t k).2.1.2.2.items.length ((takeN bag M f t k).2.1.2.2.items.flatMap imL)) (rowX_loc _ _ _ _ _ _ _) (fun b hb => by
    have hb : b ∈ I.ownBlock.toList := by simpa [rowX] using hb
    exact ⟨(own_lt hI b hb).2, far b (own_lt hI b hb).1 (own_own hI hn.2.1 (by decide) b hb)⟩) (own_base hI H.os.size)
  refine H2.know _ (rowX_loc _ _ _ _ _ _ _) (fun b hb => ?_) (own_base hU H.os.size)
  have hb : b ∈ U.ownBlock.toList := by simpa [rowX] using hb
  refine ⟨(own_lt hU b hb).2, fun q hq hbq => ?_⟩
  rcases List.mem_cons.1 hq with rfl | hq
  · have hbq : b ∈ I.ownBlock.toList := by simpa [rowX] using hbq
    exact own_own hU hI (by decide) b hb hbq
  · exact far b (own_lt hU b hb).1 (own_own hU hn.2.1 (by decide) b hb) q hq hbq
end Go.Proofs.YteiaiilfekojfaaGreat.Net
end
section
set_option linter.unusedVariables false
set_option linter.unusedSimpArgs false
namespace Go.Proofs.YteiaiilfekojfaaGreat.Net
open Go.RowKit Sx Wire DrawInv
open Msg
def askM (k : Nat) : Ms := ⟨10, 0, 0, 0, k, 0, [], [], [], Cmd.cm0, 0, []⟩
theorem ask_fits (k : Nat) (hk : k < 18446744073709551616) : (askM k).Fits := ⟨(show 10 < 256 by decide), (show 0 < 18446744073709551616 by decide), (show 0 < 256 by decide), (show 0 < 18446744073709551616 by decide), hk, (show 0 < 256 by decide), (fun v h => by cases h), (fun v h => by cases h), Cmd.cm0_fits, (show 0 < 256 by decide)⟩
theorem ask_lim (k : Nat) : (askM k).Lim := ⟨(show 0 ≤ 300 by decide), (show 0 ≤ 100 by decide), (show 0 ≤ 100 by decide), (fun v h => by cases h), (fun v h => by cases h), (show 0 ≤ 300 by decide), (show 0 ≤ 300 by decide), (show 0 ≤ 300 by decide), (show 0 ≤ 300 by decide)⟩
theorem ask_check (k : Nat) (hk : k ≤ 1000) : checkB (askM k) = true := by
  simp [checkB, askM, partsOf, Pt.may, moved, Pt.move, ms0]
  omega
theorem ask_inside (k : Nat) (hk : k ≤ 1000) : (insideB (askM k)).length ≤ 20 := by
  have h1 := (numB_length k (by omega)).1
  have e : insideB (askM k) = UInt8.ofNat 10 :: (numB k ++ []) := rfl
  rw [e, List.length_cons, List.append_nil]
  omega
theorem ask_put (k : Nat) (hk : k ≤ 1000) : ∃ s : List UInt8, putM (askM k) = (s, 0) ∧ s.length ≤ 100000 ∧ takeM s = (askM k, 0) := by
  have h1 := putM_is_ok (ask_check k hk) (Nat.le_trans (ask_inside k hk) (by decide))
  have h2 := takeM_put _ (ask_fits k (by omega)) (ask_lim k).short (ask_check k hk) (Nat.le_trans (ask_inside k hk) (by decide))
  refine ⟨_, h1, ?_, h2⟩
  have h3 := ask_inside k hk
  have h4 := (numB_length (insideB (askM k)).length (by omega)).1
  have h5 := Frame.leB_length 8 (Frame.crcSum (insideB (askM k)))
  show (numB (insideB (askM k)).length ++ (Frame.leB 8 (Frame.crcSum (insideB (askM k))) ++ insideB (askM k))).length ≤ _
  rw [List.length_append, List.length_append, h5]
  omega
end Go.Proofs.YteiaiilfekojfaaGreat.Net
end
section
set_option linter.unusedVariables false
set_option linter.unusedSimpArgs false
namespace Go.Proofs.YteiaiilfekojfaaGreat.Net
open Go.RowKit Sx Wire DrawInv
open Msg
theorem netF_fresh {base g gm : Nat} {V : Value} {bag : List Pa} {M : CutM} {w0 : World} (h1 : w0.heap.size ≤ g) (h2 : w0.heap.size ≤ gm) (hV : OwnIn w0 [] V) : ∀ b ∈ (netF base g gm V bag M).fp, w0.heap.size ≤ b := fun b hb => by
  rcases List.mem_cons.1 hb with rfl | hb
  · exact h1
  rcases List.mem_cons.1 hb with rfl | hb
  · exact h2
  · exact (hV b hb).elim (fun h => by cases h) id
theorem call_newN {w0 : World} {L : List Ft} : ∀ w, Hp w0 L w → Calls Tryz.prog 22 #[] w fun E w' => ∃ s : Nat × Nat, E = .returned (.pointer (some ⟨s.1, 0, none⟩)) ∧ (w0.heap.size ≤ s.1 ∧ w0.heap.size ≤ s.2) ∧ Hp w0 (netF w0.heap.size s.1 s.2 (.slice none 0 0) [] [] :: L) w' := fun w H => by
  refine (new_any w).mono ?_
  rintro E w' ⟨g, gm, he, hn, h1, h2, hb⟩
  refine ⟨(g, gm), he, ⟨Nat.le_trans H.os.size h1, Nat.le_trans H.os.size h2⟩, H.add hb _ (netF_loc _ _ _ _ _ _) (fun b hb => ?_) ⟨hn.1, World.ownsRow_nil _ _ _ _, hn.2.2⟩⟩
  rcases List.mem_cons.1 hb with rfl | hb
  · exact ⟨Blk.lt hn.1, h1⟩
  rcases List.mem_cons.1 hb with rfl | hb
  · exact ⟨hn.2.2.lt, h2⟩
  · simp [Value.ownBlock] at hb
theorem send_any (base g gm : Nat) (V : Value) (bag : List Pa) (M : CutM) (f t : Nat) (m : Ms) (A B : Option Addr) (ka kb : Nat) (w : World) (hn : (netF base g gm V bag M).φ w) (hb512 : bag.length ≤ 512) (hbase : base ≤ w.heap.size) (hf : m.Fits) (hs : m.Small) (hr : MsRows w m A B) :
    Calls Tryz.prog 30 #[.pointer (some ⟨g, 0, none⟩), .agg (.int .u8 (f : Int) :: .int .u8 (t : Int) :: msL m (.slice A m.votes.length ka) (.slice B m.items.length kb)).toArray] w fun e w' => e = .returned (.int .i64 ((sendN bag f t m).2 : Int)) ∧ NetTo base g gm V (sendN bag f t m).1 M w w' := by
  obtain ⟨mk, mn, mr, mb, ms, mo, mv, vl, il, ⟨ca, cb, ck, cs, ct, cu, cz⟩, mc, mt⟩ := m
  exact send_lit base g gm V bag M f t _ _ _ _ _ _ _ _ _ _ _ _ _ _ _ _ _ _ A B ka kb w hn hb512 hbase hf hs hr
theorem vrows {w : World} {base k : Nat} {e : TypeId} {A : Option Addr} (h : w.ownsRow base e 4 (.slice A 0 k) 0 []) : Rows w A 4 voL [] := by
  obtain ⟨A', c', e', _, hr⟩ := own_rows (l := []) voL_len (by decide) h
  injection e' with e1 e2 e3
  subst e1
  exact hr
theorem irows {w : World} {base k : Nat} {e : TypeId} {A : Option Addr} (h : w.ownsRow base e 2 (.slice A 0 k) 0 []) : Rows w A 2 imL [] := by
  obtain ⟨A', c', e', _, hr⟩ := own_rows (l := []) imL_len (by decide) h
  injection e' with e1 e2 e3
  subst e1
  exact hr
end Go.Proofs.YteiaiilfekojfaaGreat.Net
end
section
set_option linter.unusedVariables false
set_option linter.unusedSimpArgs false
namespace Go.Proofs.YteiaiilfekojfaaGreat.Net
open Go.RowKit Sx Wire DrawInv
open Msg
def ssB (k : Nat) : List UInt8 := (putM (askM k)).1
theorem ssB_put (k : Nat) (hk : k ≤ 1000) : putM (askM k) = (ssB k, 0) ∧ (ssB k).length ≤ 100000 ∧ takeM (ssB k) = (askM k, 0) := by
  obtain ⟨s, h1, h2, h3⟩ := ask_put k hk
  have e : ssB k = s := by unfold ssB; rw [h1]
  rw [e]
  exact ⟨h1, h2, h3⟩
theorem findM_val {α : Type} [DecidableEq α] : ∀ (M : List (α × Value)) (x : α) (i : Nat), (findM M x i).map (·.2) = (findM M x 0).map (·.2)
  | [], _, _ => rfl
  | p :: M, x, i => by
    unfold findM
    by_cases e : x = p.1
    · rw [if_pos e, if_pos e]; rfl
    · rw [if_neg e, if_neg e, findM_val M x (i + 1), findM_val M x (0 + 1)]
def valM {α : Type} [DecidableEq α] (M : List (α × Value)) (x : α) : Option Value := (findM M x 0).map (·.2)
theorem valM_set {α : Type} [DecidableEq α] : ∀ (M : List (α × Value)) (x y : α) (v : Value), valM (setM M x v) y = if y = x then some v else valM M y
  | [], x, y, v => by
    unfold valM setM findM findM
    by_cases e : y = x
    · rw [if_pos e, if_pos e]; rfl
    · rw [if_neg e, if_neg e]
  | p :: M, x, y, v => by
    unfold valM setM
    by_cases e : x = p.1
    · rw [if_pos e]
      unfold findM
      by_cases e2 : y = x
      · rw [if_pos e2, if_pos e2]; rfl
      · rw [if_neg e2, if_neg e2, if_neg (by rw [← e]; exact e2)]
    · rw [if_neg e]
      have h := valM_set M x y v
      unfold valM at h
      by_cases e2 : y = p.1
      · rw [if_neg (by rw [e2]; exact fun h => e h.symm)]
        unfold findM
        rw [if_pos e2, if_pos e2]
      · have h1 : ∀ N : List (α × Value), (findM (p :: N) y 0).map (·.2) = (findM N y 0).map (·.2) := fun N => by
          conv => lhs; unfold findM
          rw [if_neg e2]
          exact findM_val N y 1
        rw [h1, h1, h]
def prAt (ps : List (Nat × Nat)) (k : Nat) : Nat × Nat := (ps[k]?).getD (0, 0)
def pcl (ps : List (Nat × Nat)) (k : Nat) : Pa := ⟨(prAt ps k).1, (prAt ps k).2, ssB k⟩
def bagK (ps : List (Nat × Nat)) (ks : List Nat) : List Pa := ks.map (pcl ps)
theorem bagK_len (ps : List (Nat × Nat)) (ks : List Nat) : (bagK ps ks).length = ks.length := List.length_map _
theorem prAt_some {ps : List (Nat × Nat)} {k : Nat} {p : Nat × Nat} (hk : k < ps.length) (h : prAt ps k = p) : ps[k]? = some p := by
  unfold prAt at h
  rw [List.getElem?_eq_getElem hk] at h ⊢
  rw [← h]
  rfl
theorem prAt_snoc {ps : List (Nat × Nat)} {p : Nat × Nat} {k : Nat} (h : k < ps.length) : prAt (ps ++ [p]) k = prAt ps k := by
  unfold prAt
  rw [List.getElem?_append_left h]
theorem prAt_last (ps : List (Nat × Nat)) (p : Nat × Nat) : prAt (ps ++ [p]) ps.length = p := by
  unfold prAt
  rw [List.getElem?_append_right (Nat.le_refl _), Nat.sub_self]
  rfl
theorem bagK_at (ps : List (Nat × Nat)) (ks : List Nat) (i : Nat) : (bagK ps ks)[i]? = (ks[i]?).map (pcl ps) := List.getElem?_map ..
theorem map_erase {α β : Type} (f : α → β) : ∀ (l : List α) (i : Nat), (l.eraseIdx i).map f = (l.map f).eraseIdx i
  | [], _ => rfl
  | _ :: _, 0 => rfl
  | a :: l, i + 1 => by rw [List.eraseIdx_cons_succ, List.map_cons, List.map_cons, List.eraseIdx_cons_succ, map_erase f l i]
theorem bagK_erase (ps : List (Nat × Nat)) (ks : List Nat) (i : Nat) : (bagK ps ks).eraseIdx i = bagK ps (ks.eraseIdx i) := by
  unfold bagK
  exact (map_erase (pcl ps) ks i).symm
theorem hasB_bagK (ps : List (Nat × Nat)) (ks : List Nat) (f t i : Nat) : hasB (bagK ps ks) f t i = true ↔ ∃ k, ks[i]? = some k ∧ prAt ps k = (f, t) := by
  unfold hasB
  rw [bagK_at]
  cases ks[i]? with
  | none => simp
  | some k => simp [pcl, Prod.ext_iff]
theorem bagK_bytes {ps : List (Nat × Nat)} {ks : List Nat} (h : ∀ k ∈ ks, k ≤ 1000) : ∀ p ∈ bagK ps ks, p.bytes.length ≤ 100000 := fun p hp => by
  unfold bagK at hp
  obtain ⟨k, hk, rfl⟩ := List.mem_map.1 hp
  exact (ssB_put k (h k hk)).2.1
theorem idxs_first {bag : List Pa} {f t i : Nat} (h : findO bag f t 0 = some i) : ∀ j < i, hasB bag f t j = false := fun j hj => by
  cases hb : hasB bag f t j with
  | false => rfl
  | true =>
    exfalso
    unfold findO at h
    rw [if_pos (by decide)] at h
    have h0 : (idxs bag f t bag.length)[0]? = some i := h
    have hi : i < bag.length := (idxs_lt bag f t _ i (List.mem_of_getElem? h0)).1
    have hm : j ∈ idxs bag f t bag.length := by
      unfold idxs
      rw [List.mem_filter, List.mem_range]
      exact ⟨by omega, hb⟩
    have hp : (idxs bag f t bag.length).Pairwise (· < ·) := List.Pairwise.filter _ (List.pairwise_lt_range)
    cases he : idxs bag f t bag.length with
    | nil => rw [he] at h0; cases h0
    | cons a l =>
      rw [he] at h0 hm hp
      injection h0 with h0
      subst h0
      rcases List.mem_cons.1 hm with rfl | hm
      · omega
      · have := (List.pairwise_cons.1 hp).1 j hm; omega
/-- What Take makes of numbers under way. -/
theorem take_keeps {ps : List (Nat × Nat)} {ks : List Nat} {M : CutM} {f t : Nat} {K : Int} (hk : ∀ k ∈ ks, k ≤ 1000) :
    (∃ c, c ≠ 0 ∧ c < 100 ∧ takeN (bagK ps ks) M f t K = (bagK ps ks, (0, 0, ms0 0), c)) ∨
    (∃ j k : Nat, takeN (bagK ps ks) M f t K = (bagK ps (ks.eraseIdx j), (f, t, askM k), 0) ∧ ks[j]? = some k ∧ prAt ps k = (f, t) ∧ cutB M f t = false ∧ (K = 0 → ∀ j' < j, ∀ k', ks[j']? = some k' → prAt ps k' ≠ (f, t))) := by
  unfold takeN
  by_cases h1 : apartB f t = true
  · rw [if_pos h1]
    cases h2 : cutB M f t with
    | true => exact .inl ⟨13, by decide, by decide, by rw [if_pos rfl]⟩
    | false =>
      rw [if_neg (by decide)]
      cases h3 : findO (bagK ps ks) f t K with
      | none => exact .inl ⟨11, by decide, by decide, rfl⟩
      | some j =>
        obtain ⟨h4, h5⟩ := findO_lt h3
        obtain ⟨k, h6, h7⟩ := (hasB_bagK ps ks f t j).1 h5
        have hm := hk k (List.mem_of_getElem? h6)
        have hs := (ssB_put k hm).2.2
        have e : ((bagK ps ks)[j]?.map (·.bytes)).getD [] = ssB k := by rw [bagK_at, h6]; rfl
        refine .inr ⟨j, k, ?_, h6, h7, rfl, fun hK j' hj' k' hk' he => ?_⟩
        · dsimp only
          rw [e, hs, if_neg (fun h => h rfl), bagK_erase]
        · subst hK
          have := idxs_first h3 j' hj'
          rw [(hasB_bagK ps ks f t j').2 ⟨k', hk', he⟩] at this
          cases this
  · rw [if_neg h1]
    exact .inl ⟨2, by decide, by decide, rfl⟩
/-- What holds between two acts. i: acts done; ls: how often each may come; ps: whose each is. -/
structure KI (i : Nat) (ks ls : List Nat) (ps : List (Nat × Nat)) (M MC MT : CutM) (tf : Nat × Nat → Nat) (db : Bool) : Prop where
  lt : ∀ k ∈ ks, k < ps.length
  len : ls.length = ps.length
  cnt : ∀ k, ks.count k ≤ (ls[k]?).getD 0
  small : ∀ v ∈ ls, v ≤ i
  many : ps.length ≤ i
  under : ks.length ≤ i
  mt : AllT M
  mc : AllT MC
  cut : ∀ p, (valM MC p).isSome = true → (valM M (bothN p.1 p.2)).isSome = true
  tv : ∀ p, (valM MT p).getD (.int .u64 0) = .int .u64 (tf p : Int)
  tl : ∀ p, tf p ≤ ps.length
  top : db = false → ks.Pairwise (· < ·) ∧ ∀ k ∈ ks, tf (prAt ps k) ≤ k
theorem KI.start : KI 0 [] [] [] [] [] [] (fun _ => 0) false :=
  { lt := nofun, len := rfl, cnt := fun k => Nat.zero_le _, small := nofun, many := Nat.le_refl _, under := Nat.le_refl _, mt := nofun, mc := nofun, cut := (fun p h => by cases h), tv := fun p => rfl, tl := fun p => Nat.zero_le _, top := fun _ => ⟨.nil, nofun⟩ }
theorem KI.step {i : Nat} {ks ls : List Nat} {ps : List (Nat × Nat)} {M MC MT : CutM} {tf : Nat × Nat → Nat} {db : Bool} (h : KI i ks ls ps M MC MT tf db) : KI (i + 1) ks ls ps M MC MT tf db :=
  { h with small := fun v hv => Nat.le_succ_of_le (h.small v hv), many := Nat.le_succ_of_le h.many, under := Nat.le_succ_of_le h.under }
theorem count_erase {ks : List Nat} {j k : Nat} (h : ks[j]? = some k) (x : Nat) : (ks.eraseIdx j).count x + (if x = k then 1 else 0) = ks.count x := by
  induction ks generalizing j with
  | nil => cases h
  | cons a l ih =>
    cases j with
    | zero =>
      injection h with h
      subst h
      show l.count x + _ = _
      rw [List.count_cons]
      by_cases e : x = a
      · rw [if_pos e, if_pos (by simp [e])]
      · rw [if_neg e, if_neg (by simpa using fun h => e h.symm)]
    | succ j =>
      have := ih (j := j) h
      show (a :: l.eraseIdx j).count x + _ = _
      rw [List.count_cons, List.count_cons]
      omega
theorem mem_erase {ks : List Nat} {j x : Nat} (h : x ∈ ks.eraseIdx j) : x ∈ ks := List.mem_of_mem_eraseIdx h
/-- Losing: nothing that is held changes. -/
theorem KI.drop {i : Nat} {ks ls : List Nat} {ps : List (Nat × Nat)} {M MC MT : CutM} {tf : Nat × Nat → Nat} {db : Bool} (h : KI i ks ls ps M MC MT tf db) (j : Nat) : KI (i + 1) (ks.eraseIdx j) ls ps M MC MT tf db :=
  { h.step with
    lt := fun k hk => h.lt k (mem_erase hk)
    cnt := fun k => Nat.le_trans (List.Sublist.count_le k (List.eraseIdx_sublist ..)) (h.cnt k)
    under := Nat.le_trans (List.length_eraseIdx_le ..) (Nat.le_succ_of_le h.under)
    top := fun e => ⟨(h.top e).1.sublist (List.eraseIdx_sublist ..), fun k hk => (h.top e).2 k (mem_erase hk)⟩ }
theorem KI.has {i : Nat} {ks ls : List Nat} {ps : List (Nat × Nat)} {M MC MT : CutM} {tf : Nat × Nat → Nat} {db : Bool} (h : KI i ks ls ps M MC MT tf db) {j k : Nat} (hj : ks[j]? = some k) : k < ls.length ∧ ∃ v, ls[k]? = some v ∧ 1 ≤ v ∧ v ≤ i := by
  have hk := h.lt k (List.mem_of_getElem? hj)
  have hl : k < ls.length := by rw [h.len]; exact hk
  refine ⟨hl, _, List.getElem?_eq_getElem hl, ?_, h.small _ (List.getElem_mem hl)⟩
  have h1 := h.cnt k
  rw [List.getElem?_eq_getElem hl] at h1
  have h2 : 0 < ks.count k := List.count_pos_iff.2 (List.mem_of_getElem? hj)
  rw [Option.getD_some] at h1
  omega
theorem getD_set (ls : List Nat) (k v x : Nat) : ((ls.set k v)[x]?).getD 0 = if x = k ∧ k < ls.length then v else (ls[x]?).getD 0 := by
  rw [List.getElem?_set]
  by_cases e : k = x
  · subst e
    by_cases hl : k < ls.length
    · rw [if_pos rfl, if_pos hl, if_pos ⟨rfl, hl⟩]; rfl
    · rw [if_pos rfl, if_neg hl, if_neg (fun h => hl h.2), List.getElem?_eq_none (by omega)]
  · rw [if_neg e, if_neg (fun h => e h.1.symm)]
/-- Taking, where nothing is told of the order. -/
theorem KI.take {i : Nat} {ks ls : List Nat} {ps : List (Nat × Nat)} {M MC MT : CutM} {tf : Nat × Nat → Nat} {db : Bool} (h : KI i ks ls ps M MC MT tf db) {j k v : Nat} (hj : ks[j]? = some k) (hv : ls[k]? = some v) : KI (i + 1) (ks.eraseIdx j) (ls.set k (v - 1)) ps M MC MT tf db :=
  { h.drop j with
    len := by rw [List.length_set]; exact h.len
    cnt := fun x => by
      have h1 := count_erase hj x
      have h2 := h.cnt x
      rw [getD_set]
      by_cases e : x = k
      · subst e
        rw [if_pos rfl] at h1
        rw [hv] at h2
        rw [if_pos ⟨rfl, (List.getElem?_eq_some_iff.1 hv).1⟩]
        simp only [Option.getD_some] at h2
        omega
      · rw [if_neg e] at h1
        rw [if_neg (fun h => e h.1)]
        omega
    small := fun u hu => by
      rcases List.mem_or_eq_of_mem_set hu with hu | rfl
      · exact Nat.le_succ_of_le (h.small u hu)
      · have := h.small v (List.mem_of_getElem? hv); omega }
theorem erase_after {ks : List Nat} (hp : ks.Pairwise (· < ·)) : ∀ {j k x : Nat}, ks[j]? = some k → x ∈ ks.eraseIdx j → (∃ j', j' < j ∧ ks[j']? = some x) ∨ k < x := by
  induction ks with
  | nil => intro j k x h; cases h
  | cons a l ih =>
    intro j k x h hx
    obtain ⟨h1, h2⟩ := List.pairwise_cons.1 hp
    cases j with
    | zero =>
      injection h with h
      subst h
      exact .inr (h1 x hx)
    | succ j =>
      rcases List.mem_cons.1 hx with rfl | hx
      · exact .inl ⟨0, by omega, rfl⟩
      · rcases ih h2 (j := j) h hx with ⟨j', h3, h4⟩ | h3
        · exact .inl ⟨j' + 1, by omega, h4⟩
        · exact .inr h3
/-- Taking the first one of its pair, where none was doubled. -/
theorem KI.first {i : Nat} {ks ls : List Nat} {ps : List (Nat × Nat)} {M MC MT : CutM} {tf : Nat × Nat → Nat} (h : KI i ks ls ps M MC MT tf false) {j k v : Nat} {p : Nat × Nat} (hj : ks[j]? = some k) (hv : ls[k]? = some v) (hp : prAt ps k = p) (hf : ∀ j' < j, ∀ k', ks[j']? = some k' → prAt ps k' ≠ p) :
    KI (i + 1) (ks.eraseIdx j) (ls.set k (v - 1)) ps M MC (setM MT p (.int .u64 (k : Int))) (fun q => if q = p then k else tf q) false :=
  { h.take hj hv with
    tv := fun q => by
      rw [valM_set]
      by_cases e : q = p
      · rw [if_pos e, if_pos e]; rfl
      · rw [if_neg e, if_neg e]; exact h.tv q
    tl := fun q => by
      show (if q = p then k else tf q) ≤ _
      have := h.lt k (List.mem_of_getElem? hj)
      have := h.tl q
      split <;> omega
    top := fun e => by
      obtain ⟨h1, h2⟩ := h.top e
      refine ⟨h1.sublist (List.eraseIdx_sublist ..), fun x hx => ?_⟩
      show (if prAt ps x = p then k else tf (prAt ps x)) ≤ x
      by_cases e2 : prAt ps x = p
      · rw [if_pos e2]
        rcases erase_after h1 hj hx with ⟨j', h3, h4⟩ | h3
        · exact absurd e2 (hf j' h3 x h4)
        · omega
      · rw [if_neg e2]; exact h2 x (mem_erase hx) }
theorem KI.least {i : Nat} {ks ls : List Nat} {ps : List (Nat × Nat)} {M MC MT : CutM} {tf : Nat × Nat → Nat} (h : KI i ks ls ps M MC MT tf false) {j k : Nat} {p : Nat × Nat} (hj : ks[j]? = some k) (hp : prAt ps k = p) : tf p ≤ k := by
  subst hp
  exact (h.top rfl).2 k (List.mem_of_getElem? hj)
/-- Sent, and come to be under way. -/
theorem KI.sent {i : Nat} {ks ls : List Nat} {ps : List (Nat × Nat)} {M MC MT : CutM} {tf : Nat × Nat → Nat} {db : Bool} (h : KI i ks ls ps M MC MT tf db) (p : Nat × Nat) : KI (i + 1) (ks ++ [ls.length]) (ls ++ [1]) (ps ++ [p]) M MC MT tf db := by
  have hl := h.len
  refine { h.step with lt := fun k hk => ?_, len := by simp [hl], cnt := fun k => ?_, small := fun v hv => ?_, many := ?_, under := ?_, tl := fun q => ?_, top := fun e => ⟨?_, fun k hk => ?_⟩ }
  · rcases List.mem_append.1 hk with hk | hk
    · have := h.lt k hk; simp; omega
    · have := List.mem_singleton.1 hk; simp; omega
  · rw [List.count_append, List.count_singleton]
    have h1 := h.cnt k
    by_cases e : k < ls.length
    · rw [List.getElem?_append_left e, if_neg (by simp; omega)]
      exact h1
    · rw [List.getElem?_append_right (by omega)]
      rw [List.getElem?_eq_none (by omega)] at h1
      simp only [Option.getD_none] at h1
      by_cases e2 : k = ls.length
      · subst e2; simp; omega
      · rw [if_neg (by simp; omega)]
        omega
  · rcases List.mem_append.1 hv with hv | hv
    · exact Nat.le_succ_of_le (h.small v hv)
    · rw [List.mem_singleton.1 hv]; omega
  · have := h.many; simp; omega
  · have := h.under; simp; omega
  · have := h.tl q; simp; omega
  · refine List.pairwise_append.2 ⟨(h.top e).1, List.pairwise_singleton _ _, fun a ha b hb => ?_⟩
    rw [List.mem_singleton.1 hb, hl]
    exact h.lt a ha
  · rcases List.mem_append.1 hk with hk | hk
    · rw [prAt_snoc (h.lt k hk)]
      exact (h.top e).2 k hk
    · rw [List.mem_singleton.1 hk, hl, prAt_last]
      exact h.tl p
/-- Each letter of a pair may have been doubled. -/
def moreL (ls : List Nat) (ps : List (Nat × Nat)) (p : Nat × Nat) : List Nat := ls.mapIdx fun k v => if prAt ps k = p ∧ 0 < v then v + 1 else v
theorem moreL_at (ls : List Nat) (ps : List (Nat × Nat)) (p : Nat × Nat) (k : Nat) : (moreL ls ps p)[k]? = (ls[k]?).map fun v => if prAt ps k = p ∧ 0 < v then v + 1 else v := by
  unfold moreL
  rw [List.getElem?_mapIdx]
theorem moreL_len (ls : List Nat) (ps : List (Nat × Nat)) (p : Nat × Nat) : (moreL ls ps p).length = ls.length := List.length_mapIdx
theorem KI.doubled {i : Nat} {ks ls : List Nat} {ps : List (Nat × Nat)} {M MC MT : CutM} {tf : Nat × Nat → Nat} {db : Bool} (h : KI i ks ls ps M MC MT tf db) {j k : Nat} {p : Nat × Nat} (hj : ks[j]? = some k) (hp : prAt ps k = p) : KI (i + 1) (ks ++ [k]) (moreL ls ps p) ps M MC MT tf true := by
  have hkm := List.mem_of_getElem? hj
  refine { h.step with lt := fun x hx => ?_, len := by rw [moreL_len]; exact h.len, cnt := fun x => ?_, small := fun v hv => ?_, under := ?_, top := fun e => by cases e }
  · rcases List.mem_append.1 hx with hx | hx
    · exact h.lt x hx
    · rw [List.mem_singleton.1 hx]; exact h.lt k hkm
  · rw [List.count_append, List.count_singleton, moreL_at]
    have h1 := h.cnt x
    cases hx : ls[x]? with
    | none =>
      rw [hx] at h1
      simp only [Option.getD_none, Option.map_none] at h1 ⊢
      have : x ≠ k := fun e => by
        subst e
        have := h.lt x hkm
        rw [← h.len] at this
        rw [List.getElem?_eq_getElem this] at hx
        cases hx
      rw [if_neg (by simpa using fun h => this h.symm)]
      omega
    | some v =>
      rw [hx] at h1
      simp only [Option.getD_some, Option.map_some] at h1 ⊢
      by_cases e : x = k
      · subst e
        have h2 : 0 < ks.count x := List.count_pos_iff.2 hkm
        rw [if_pos (by simp), if_pos ⟨hp, by omega⟩]
        omega
      · rw [if_neg (by simpa using fun h => e h.symm)]
        split <;> omega
  · obtain ⟨x, hx⟩ := List.getElem?_of_mem hv
    rw [moreL_at] at hx
    cases hl : ls[x]? with
    | none => rw [hl] at hx; cases hx
    | some u =>
      rw [hl] at hx
      simp only [Option.map_some, Option.some.injEq] at hx
      have := h.small u (List.mem_of_getElem? hl)
      split at hx <;> omega
  · have := h.under; simp; omega
theorem AllT_nil : AllT [] := fun _ h => by cases h
theorem both_comm (a b : Nat) : bothN a b = bothN b a := by
  unfold bothN
  rw [Nat.min_comm, Nat.max_comm]
theorem some_set {M : CutM} {x y : Nat × Nat} {v : Value} (h : (valM M y).isSome = true) : (valM (setM M x v) y).isSome = true := by
  rw [valM_set]
  split
  · rfl
  · exact h
theorem KI.cuts {i : Nat} {ks ls : List Nat} {ps : List (Nat × Nat)} {M MC MT : CutM} {tf : Nat × Nat → Nat} {db : Bool} (h : KI i ks ls ps M MC MT tf db) (f t : Nat) : KI (i + 1) ks ls ps (setM M (bothN f t) (.bool true)) (setM (setM MC (f, t) (.bool true)) (t, f) (.bool true)) MT tf db :=
  { h.step with
    mt := allT_set _ _ h.mt
    mc := allT_set _ _ (allT_set _ _ h.mc)
    cut := fun p hp => by
      by_cases e1 : p = (t, f)
      · subst e1
        rw [valM_set, if_pos (both_comm t f)]; rfl
      by_cases e2 : p = (f, t)
      · subst e2
        rw [valM_set, if_pos rfl]; rfl
      · rw [valM_set, if_neg e1, valM_set, if_neg e2] at hp
        exact some_set (h.cut p hp) }
end Go.Proofs.YteiaiilfekojfaaGreat.Net
end
section
set_option linter.unusedVariables false
set_option linter.unusedSimpArgs false
set_option linter.unusedSectionVars false
namespace Go.Proofs.YteiaiilfekojfaaGreat.Sx
open Go.RowKit DrawInv

theorem Hp.nilRow {w0 w : World} {L : List Ft} (H : Hp w0 L w) (e : TypeId) (sz : Nat) : Hp w0 (rowX [] w0.heap.size e sz (.slice none 0 0) 0 [] :: L) w :=
  H.know _ (rowX_loc _ _ _ _ _ _ _) (fun g hg => by simp [rowX, Value.ownBlock] at hg) (World.ownsRow_nil _ _ _ _)
theorem own_none (w : World) (n c : Nat) : OwnIn w [] (.slice none n c) := fun g hg => by cases hg
theorem own_readE {α : Type} {cells : α → List Value} {w : World} {base e n c sz : Nat} {A : Option Addr} {l : List α} (hc : ∀ x, (cells x).length = sz) (hs : 0 < sz) (h : w.ownsRow base e sz (.slice A n c) l.length (l.flatMap cells)) : Rows w A sz cells l := by
  obtain ⟨A', c', e', _, hr⟩ := own_rows hc hs h
  injection e' with e1 e2 e3
  subst e1
  exact hr
def iL (v : Nat) : List Value := [.int .i64 (v : Int)]
def bL (v : Bool) : List Value := [.bool v]
theorem iL_len (v : Nat) : (iL v).length = 1 := rfl
theorem bL_len (v : Bool) : (bL v).length = 1 := rfl
theorem iL_one (v : Nat) : ∀ u ∈ iL v, u.oneCell' = true := fun u hu => by rw [List.mem_singleton.1 hu]; rfl
theorem putL_mid3 : ∀ (l pre rest suf : List Value), rest.length = l.length → putL (pre ++ (rest ++ suf)) pre.length l = pre ++ (l ++ suf)
  | [], pre, rest, suf, h => by
    cases rest with
    | nil => rfl
    | cons a r => simp at h
  | v :: l, pre, rest, suf, h => by
    cases rest with
    | nil => simp at h
    | cons a r =>
      unfold putL
      rw [show (pre ++ (a :: r ++ suf)).set pre.length v = (pre ++ [v]) ++ (r ++ suf) by simp]
      have ih := putL_mid3 l (pre ++ [v]) r suf (by simpa using h)
      rw [List.length_append, List.length_singleton] at ih
      rw [ih]
      simp
theorem set_split {α : Type} (l : List α) (k : Nat) (x : α) (hk : k < l.length) : l.set k x = l.take k ++ (x :: l.drop (k + 1)) := by
  rw [List.set_eq_take_append_cons_drop, if_pos hk]
theorem flat_len {α : Type} {cells : α → List Value} {sz : Nat} (hc : ∀ x, (cells x).length = sz) (l : List α) : (l.flatMap cells).length = l.length * sz := by
  induction l with
  | nil => simp
  | cons a l ih => rw [List.flatMap_cons, List.length_append, ih, hc, List.length_cons, Nat.succ_mul, Nat.add_comm]
section
variable {P : Program} {ops : Array Oper} {Q Q' : Exit → Act → World → Prop} {n : Nat} {vs : Vs} {w0 : World} {L : List Ft} {o : Oper} {rest : List Oper} {S : World → Prop} {fuel : Nat} {listed : Array Bool}
/-- An element of a row of one's own stored anew: what the row holds then. -/
theorem store_el {α : Type} {cells : α → List Value} {l : List α} {y : α} {w : World} {ρ : Operand → Value} {base e sz m c k g : Nat} {u : TypeId} {p x : Operand} {v : Value} {vs : Vs} (hcl : ∀ x, (cells x).length = sz) (E : Env vs ρ) (hown : w.ownsRow base e sz (.slice (some ⟨g, 0, none⟩) m c) l.length (l.flatMap cells)) (ho : o.op = .store u p x) (hp : opv vs p = some (.pointer (some ((⟨g, 0, none⟩ : Addr).add (k * sz))))) (hx : opv vs x = some v) (hk : k < l.length) (hz : (P.info? u).map (·.size) = some sz) (hm : v.cells.toList = cells y) (h1 : v.cells.toList.all (·.oneCell') = true) :
    ∃ w', (execOp ρ o).run P w = .ok .skip w' ∧ w'.ownsRow base e sz (.slice (some ⟨g, 0, none⟩) m c) l.length ((l.set k y).flatMap cells) ∧ w.grownBy w' (some g) := by
  rcases hown.2 with ⟨h0, _⟩ | ⟨g', cap, cur, ev, hb, hh, hc1, hc2, hc3, hc4⟩
  · cases h0
  · injection ev with e1 e2 e3
    cases e1
    subst e3
    subst e2
    have hB : Blk w g e cur.toList.toArray := by rw [Array.toArray_toList]; exact hh
    have hle : (k + 1) * sz ≤ c * sz := Nat.mul_le_mul_right _ (by omega)
    have hlen : cur.toList.length = c * sz := by simpa using hc3
    rw [Nat.succ_mul] at hle
    have hvl : v.cells.toList.length = sz := by rw [hm, hcl]
    obtain ⟨w', hr, hb', hg⟩ := ex_store (P := P) (off := k * sz) (m := sz) (cs := cur.toList) E hB ho (by rw [hp, add_none, Nat.zero_add]) hx hz hvl (by rw [Nat.ble_eq, hlen]; omega) h1
    have hlen2 : (putL cur.toList (k * sz) v.cells.toList).length = c * sz := by rw [putL_length, hlen]
    have hset : (l.set k y).length = l.length := List.length_set
    have hcur : cur.toList = l.flatMap cells ++ cur.toList.drop (l.length * sz) := by
      have := List.take_append_drop (l.length * sz) cur.toList
      rw [hc4] at this
      exact this.symm
    have hput : putL cur.toList (k * sz) v.cells.toList = (l.set k y).flatMap cells ++ cur.toList.drop (l.length * sz) := by
      rw [set_split l k y hk, hm]
      conv => lhs; rw [hcur]
      obtain ⟨z, hz⟩ : ∃ z, l[k]? = some z := ⟨_, List.getElem?_eq_getElem hk⟩
      have hl : l = l.take k ++ (z :: l.drop (k + 1)) := by
        rw [← set_split l k z hk]
        refine List.ext_getElem? fun i => ?_
        by_cases hi : k = i
        · subst hi; rw [List.getElem?_set_self hk, hz]
        · rw [List.getElem?_set_ne hi]
      have h5 := putL_mid3 (cells y) ((l.take k).flatMap cells) (cells z) ((l.drop (k + 1)).flatMap cells ++ cur.toList.drop (l.length * sz)) (by rw [hcl, hcl])
      rw [flat_len hcl, List.length_take, Nat.min_eq_left (Nat.le_of_lt hk)] at h5
      have e1 : l.flatMap cells = (l.take k).flatMap cells ++ (cells z ++ (l.drop (k + 1)).flatMap cells) := by
        conv => lhs; rw [hl]
        rw [List.flatMap_append, List.flatMap_cons]
      rw [List.flatMap_append, List.flatMap_cons]
      simp only [List.append_assoc]
      rw [← h5]
      congr 1
      rw [e1]
      simp only [List.append_assoc]
    have hfl : ((l.set k y).flatMap cells).length = l.length * sz := by rw [flat_len hcl, hset]
    refine ⟨w', hr, ⟨by rw [hfl], .inr ⟨g, c, (putL cur.toList (k * sz) v.cells.toList).toArray, rfl, hb, hb', hc1, hc2, by simpa using hlen2, ?_⟩⟩, hg⟩
    show (putL cur.toList (k * sz) v.cells.toList).take _ = _
    rw [hput, List.take_left' (by rw [hfl])]
theorem Hp.storeEl {α : Type} {cells : α → List Value} {l : List α} {y : α} {w : World} {ρ : Operand → Value} {i base e sz m c k g : Nat} {u : TypeId} {p x : Operand} {v : Value} {ex : List Nat} (hcl : ∀ x, (cells x).length = sz) (E : Env vs ρ) (H : Hp w0 L w) (ho : o.op = .store u p x) (hp : opv vs p = some (.pointer (some ((⟨g, 0, none⟩ : Addr).add (k * sz))))) (hx : opv vs x = some v)
    (hL : nth L i = some (rowX ex base e sz (.slice (some ⟨g, 0, none⟩) m c) l.length (l.flatMap cells))) (hk : k < l.length) (hz : (P.info? u).map (·.size) = some sz) (hm : v.cells.toList = cells y) (h1 : v.cells.toList.all (·.oneCell') = true) :
    ∃ w', (execOp ρ o).run P w = .ok .skip w' ∧ Hp w0 (putF L i (rowX ex base e sz (.slice (some ⟨g, 0, none⟩) m c) (l.set k y).length ((l.set k y).flatMap cells))) w' := by
  obtain ⟨w', hr, hown', hg⟩ := store_el (P := P) (y := y) hcl E (H.get hL) ho hp hx hk hz hm h1
  have hin : g ∈ (rowX ex base e sz (.slice (some ⟨g, 0, none⟩) m c) l.length (l.flatMap cells)).fp := by simp [rowX, Value.ownBlock]
  refine ⟨w', hr, H.chg hL _ (Outs.of_grown hg hin) (rowX_loc _ _ _ _ _ _ _) (fun b hb => ⟨Nat.lt_of_lt_of_le ((H.ok _ (nth_mem hL)).2.1 b hb) hg.size, .inl hb⟩) (fun b hb => .inl hb) ?_⟩
  rw [List.length_set]
  exact hown'
end
end Go.Proofs.YteiaiilfekojfaaGreat.Sx
end
section
set_option linter.unusedVariables false
namespace Go.Proofs.YteiaiilfekojfaaGreat.Msg
open Go.Joins Go.RowKit Go.WideShapes Go.ChangeShapes Go.Deep

structure Vx where
  slot : Nat
  n : Nat
  r : Nat
  value : List UInt8
def Vx.Fits (x : Vx) : Prop := x.slot < 18446744073709551616 ∧ x.n < 18446744073709551616 ∧ x.r < 256 ∧ x.value.length ≤ 9223372036854775807
structure Ix where
  slot : Nat
  value : List UInt8
def Ix.Fits (x : Ix) : Prop := x.slot < 18446744073709551616 ∧ x.value.length ≤ 9223372036854775807
end Go.Proofs.YteiaiilfekojfaaGreat.Msg
end
section
set_option linter.unusedVariables false
set_option linter.unusedSimpArgs false
namespace Go.Proofs.YteiaiilfekojfaaGreat.Net
open Go.Joins Go.RowKit Go.WideShapes Go.ChangeShapes Go.Deep Msg Sx

structure Na where
  d : Nat
  f : Nat
  t : Nat
  k : Int
  m : Ms
  A : Option Addr
  ka : Nat
  B : Option Addr
  kb : Nat
structure Na.Ok (w : World) (x : Na) : Prop where
  d : x.d < 256
  f : x.f < 256
  t : x.t < 256
  k : -9223372036854775808 ≤ x.k ∧ x.k ≤ 9223372036854775807
  m : x.m.Fits
  r : MsRows w x.m x.A x.B
  n1 : x.m.votes.length ≤ 9223372036854775807
  n2 : x.m.items.length ≤ 9223372036854775807
def prL (p : Nat × Nat) : List Value := [.int .u8 (p.1 : Int), .int .u8 (p.2 : Int)]
theorem prL_len (p : Nat × Nat) : (prL p).length = 2 := rfl
theorem prL_one (p : Nat × Nat) : ∀ u ∈ prL p, u.oneCell' = true := by
  intro u hu
  simp only [prL, List.mem_cons, List.not_mem_nil, or_false] at hu
  rcases hu with rfl | rfl <;> rfl
theorem dec_pr {w : World} : ∀ n es, es.length = 2 → Leafy Tryz.prog w n 57 es → ∃ x : Nat × Nat, (x.1 < 256 ∧ x.2 < 256) ∧ es = prL x := by
  intro n es hlen h
  match es, hlen with
  | [c0, c1], _ =>
    have e0 : Tryz.prog.cellsOf 5 = 1 := by kernel_rfl
    obtain ⟨m1, _, hf⟩ := leafy_struct Tryz.underlying57 h
    have g0 : Leafy Tryz.prog w m1 5 ((([c0, c1] : List Value).drop 0).take (Tryz.prog.cellsOf 5)) := hf 0 _ rfl
    have g1 : Leafy Tryz.prog w m1 5 ((([c0, c1] : List Value).drop 1).take (Tryz.prog.cellsOf 5)) := hf 1 _ rfl
    rw [e0] at g0 g1
    simp only [List.drop_zero, List.drop_succ_cons, List.take_succ_cons, List.take_zero] at g0 g1
    obtain ⟨z0, q0, w0⟩ := leafy_int Tryz.underlying5 g0
    obtain ⟨z1, q1, w1⟩ := leafy_int Tryz.underlying5 g1
    obtain rfl : c0 = _ := List.head_eq_of_cons_eq q0
    obtain rfl : c1 = _ := List.head_eq_of_cons_eq q1
    have b0 := bounds_u8 w0
    have b1 := bounds_u8 w1
    obtain ⟨x0, rfl⟩ := Int.eq_ofNat_of_zero_le b0.1
    obtain ⟨x1, rfl⟩ := Int.eq_ofNat_of_zero_le b1.1
    exact ⟨(x0, x1), ⟨(show x0 < 256 by omega), (show x1 < 256 by omega)⟩, rfl⟩
set_option maxRecDepth 100000 in
theorem open_prs {H : Type} {enc : TypeId × Value → H} {w : World} {base : Nat} {v : Value} {d : DataW H} {p : List MemPlace} {r : Reach} (h : DataW.Trod enc Tryz.prog w 0 (fun _ => true) true 51 v d p) (hk : Value.okWide Tryz.prog w r base 51 v) :
    ∃ (A : Option Addr) (c : Nat) (l : List (Nat × Nat)), v = .slice A l.length c ∧ Rows w A 2 prL l ∧ (∀ x ∈ l, x.1 < 256 ∧ x.2 < 256) ∧ l.length ≤ 9223372036854775807 :=
  open_rows Tryz.underlying51 (by kernel_rfl) (fun x => by rw [prL_len]; omega) dec_pr h hk
def wL (x : Nat) : List Value := [.int .u16 (x : Int)]
theorem dec_w {w : World} : ∀ n es, es.length = 1 → Leafy Tryz.prog w n 73 es → ∃ x : Nat, x < 65536 ∧ es = wL x := by
  intro n es hlen h
  obtain ⟨z0, q0, w0⟩ := leafy_int Tryz.underlying73 h
  have b0 := bounds_u16 w0
  obtain ⟨x0, rfl⟩ := Int.eq_ofNat_of_zero_le b0.1
  exact ⟨x0, by omega, q0⟩
set_option maxRecDepth 100000 in
theorem open_ws {H : Type} {enc : TypeId × Value → H} {w : World} {base : Nat} {v : Value} {d : DataW H} {p : List MemPlace} {r : Reach} (h : DataW.Trod enc Tryz.prog w 0 (fun _ => true) true 70 v d p) (hk : Value.okWide Tryz.prog w r base 70 v) :
    ∃ (A : Option Addr) (c : Nat) (l : List Nat), v = .slice A l.length c ∧ Rows w A 1 wL l ∧ (∀ x ∈ l, x < 65536) ∧ l.length ≤ 9223372036854775807 :=
  open_rows Tryz.underlying70 (by kernel_rfl) (fun x => by show 0 < 1; omega) dec_w h hk
end Go.Proofs.YteiaiilfekojfaaGreat.Net
end
section
set_option linter.unusedVariables false
set_option linter.unusedSimpArgs false
namespace Go.Proofs.YteiaiilfekojfaaGreat.Net
open Go.RowKit Sx Wire DrawInv
open Msg
theorem eq_pair_lit (a b c d : Nat) (w : World) : (Op.equal 57 (.agg #[.int .u8 (a : Int), .int .u8 (b : Int)]) (.agg #[.int .u8 (c : Int), .int .u8 (d : Int)])).run Tryz.prog w = .ok (decide ((a, b) = (c, d))) w := eq_pair (a, b) (c, d) w
/-- What more has done up to k. -/
def moreK (ls : List Nat) (ps : List (Nat × Nat)) (p : Nat × Nat) (k : Nat) : List Nat := ls.mapIdx fun j v => if j < k ∧ prAt ps j = p ∧ 0 < v then v + 1 else v
theorem moreK_zero (ls : List Nat) (ps : List (Nat × Nat)) (p : Nat × Nat) : moreK ls ps p 0 = ls := by
  refine List.ext_getElem? fun i => ?_
  unfold moreK
  rw [List.getElem?_mapIdx]
  cases ls[i]? <;> simp
theorem moreK_len (ls : List Nat) (ps : List (Nat × Nat)) (p : Nat × Nat) (k : Nat) : (moreK ls ps p k).length = ls.length := List.length_mapIdx
theorem moreK_at {ls : List Nat} {k v : Nat} (ps : List (Nat × Nat)) (p : Nat × Nat) (h : ls[k]? = some v) : (moreK ls ps p k)[k]? = some v := by
  unfold moreK
  rw [List.getElem?_mapIdx, h]
  simp
theorem moreK_succ (ls : List Nat) (ps : List (Nat × Nat)) (p : Nat × Nat) (k v : Nat) (h : ls[k]? = some v) : moreK ls ps p (k + 1) = if prAt ps k = p ∧ 0 < v then (moreK ls ps p k).set k (v + 1) else moreK ls ps p k := by
  have hk := (List.getElem?_eq_some_iff.1 h).1
  refine List.ext_getElem? fun i => ?_
  by_cases e : i = k
  · subst e
    have h1 : (moreK ls ps p (i + 1))[i]? = some (if prAt ps i = p ∧ 0 < v then v + 1 else v) := by
      unfold moreK
      rw [List.getElem?_mapIdx, h]
      simp
    rw [h1]
    split
    · rw [List.getElem?_set_self (by rw [moreK_len]; exact hk)]
    · rw [moreK_at ps p h]
  · have h1 : (moreK ls ps p (k + 1))[i]? = (moreK ls ps p k)[i]? := by
      unfold moreK
      rw [List.getElem?_mapIdx, List.getElem?_mapIdx]
      cases ls[i]? with
      | none => rfl
      | some u =>
        have : (i < k + 1) ↔ i < k := by omega
        simp [this]
    rw [h1]
    split
    · rw [List.getElem?_set_ne (fun h => e h.symm)]
    · rfl
theorem moreK_all (ls : List Nat) (ps : List (Nat × Nat)) (p : Nat × Nat) : moreK ls ps p ls.length = moreL ls ps p := by
  refine List.ext_getElem? fun i => ?_
  unfold moreK moreL
  rw [List.getElem?_mapIdx, List.getElem?_mapIdx]
  cases h : ls[i]? with
  | none => rfl
  | some u =>
    have : i < ls.length := (List.getElem?_eq_some_iff.1 h).1
    simp [this]

set_option maxRecDepth 100000 in
set_option maxHeartbeats 4000000 in
theorem more_any (ls : List Nat) (ps : List (Nat × Nat)) (p q : Nat) (A A2 : Option Addr) (c c2 : Nat) (w : World) (hl : Rows w A 1 iL ls) (hp : Rows w A2 2 prL ps) (hle : ls.length ≤ 1000) (hpl : ps.length = ls.length) (hsm : ∀ v ∈ ls, v ≤ 1000) : Calls Tryz.prog 27 #[.slice A ls.length c, .slice A2 ps.length c2, .agg #[.int .u8 (p : Int), .int .u8 (q : Int)]] w fun e w' => ∃ v, e = .returned v ∧ w'.ownsRow w.heap.size 3 1 v (moreL ls ps (p, q)).length ((moreL ls ps (p, q)).flatMap iL) ∧ Below w.heap.size w w' := by
  have hnone := own_none w 0 0
  refine sx_enter (n := 37) _ Tryz.func27 rfl rfl rfl (Hp.start w) ?_
  refine SxC.seq (SxC.region ?_)
  refine SxL.new (cs := [.int .u8 (p : Int), .int .u8 (q : Int)]) trivial rfl rfl (fun ρ w E H => ex_box E rfl rfl rfl) fun g1 hg1 => ?_
  refine SxL.val trivial rfl rfl (fun ρ w E H => ex_assign E rfl rfl) ?_
  refine SxL.nil (SxN.then_ (SxC.seq ?_))
  refine SxC.hp (fun W H => H.nilRow 3 1) ?_
  refine SxC.region ?_
  refine SxL.val trivial rfl rfl (fun ρ w E H => ex_move E rfl rfl) ?_
  refine SxL.append (i := 0) (news := ls.flatMap iL) trivial rfl rfl rfl Tryz.underlying50 nf_int rfl rfl rfl rfl hnone rfl (fun W H => ⟨_, rows_reads iL_len (by decide) (hl.below (H.toBelow ⟨hnone.fresh, (fun g hg => by rw [List.mem_singleton.1 hg]; exact hg1), trivial⟩))⟩) (Sx.flat_one iL_one _) (by unfold maxLen; omega) (by omega) (Nat.le_refl _) fun A10 k10 hv10 => ?_
  refine SxL.val trivial rfl rfl (fun ρ w E H => ex_assign E rfl rfl) ?_
  refine SxL.nil (SxN.then_ (SxC.seq (SxC.seq (SxC.region ?_))))
  refine SxL.val trivial rfl rfl (fun ρ w E H => ex_assign E rfl rfl) ?_
  refine SxL.nil (SxN.then_ (SxC.block ?_))
  refine SxC.hp (fun W H => H.re (i := 0) rfl (rowX [] w.heap.size 3 1 (.slice A10 (0 + ls.length) k10) ((moreK ls ps (p, q) 0).length) ((moreK ls ps (p, q) 0).flatMap iL)) (rowX_loc _ _ _ _ _ _ _) rfl (fun h => own_as h (by rw [moreK_len]; omega) (by rw [moreK_zero]; rfl))) ?_
  refine SxC.with (p := True) (fun _ _ => trivial) fun _ => ?_
  refine SxC.loop2 (fun (k : Nat) (vL : Value) => [(0, .slice A ls.length c), (1, .slice A2 ps.length c2), (5, .pointer (some ⟨g1, 0, none⟩)), (7, vL), (8, .int .i64 (k : Int))]) (fun (k : Nat) (vL : Value) => [rowX [] w.heap.size 3 1 vL ((moreK ls ps (p, q) k).length) ((moreK ls ps (p, q) k).flatMap iL), cell g1 57 [.int .u8 (p : Int), .int .u8 (q : Int)]]) (fun (gk : Nat) (k : Nat) (vL : Value) => k + gk = ls.length ∧ OwnIn w [] vL) ls.length 0 (.slice A10 (0 + ls.length) k10) ⟨by omega, hv10⟩ ⟨rfl, rfl, rfl, rfl, rfl, trivial⟩ [0, 1] rfl (by decide) ⟨.inl rfl, .inl rfl, trivial⟩ fun gk k vL hF => ?_
  obtain ⟨hkg, hvL⟩ := hF
  refine SxC.seq (SxC.seq ?_)
  refine SxC.with (fun W H => own_is_slice (H.get (i := 0) rfl)) ?_
  rintro ⟨AL, cL, rfl⟩
  refine SxC.region ?_
  iterate 2 refine SxL.val trivial rfl rfl (fun ρ w E H => ex_move E rfl rfl) ?_
  refine SxL.val (v := .int .i64 ((moreK ls ps (p, q) k).length : Int)) trivial rfl rfl (fun ρ w E H => ex_lenS E rfl Tryz.underlying50 rfl) ?_
  refine SxL.valB trivial rfl rfl (fun ρ w E H => ex_cmp E rfl rfl rfl rfl rfl) fun c14 hc14 => ?_
  refine SxL.nil (SxN.then_ ?_)
  cases c14
  · refine SxC.condF rfl (SxC.exit (SxX.thenE (SxX.thenE (SxX.blockE (SxN.then_ (SxC.seq (SxC.region ?_)))))))
    refine SxL.val trivial rfl rfl (fun ρ w E H => ex_move E rfl rfl) ?_
    refine SxL.val trivial rfl rfl (fun ρ w E H => ex_assign E rfl rfl) ?_
    refine SxL.nil (SxN.then_ (SxC.ret ?_))
    refine SxX.done (.slice AL ((moreK ls ps (p, q) k).length) cL) (fun a w K H => res1 K rfl rfl) (fun w H => ?_)
    have hke : k = ls.length := by have h := hc14; simp only [cmpB, moreK_len] at h; simp at h; omega
    subst hke
    exact ⟨_, rfl, own_as (H.get (i := 0) rfl) (by rw [moreK_all]) (by rw [moreK_all]), H.toBelow ⟨hvL.fresh, (fun g hg => by rw [List.mem_singleton.1 hg]; exact hg1), trivial⟩⟩
  · refine SxC.condT rfl (SxC.skip (SxN.then_ (SxC.seq (SxC.block (SxC.seq ?_)))))
    have hkl : k < ls.length := by have h := hc14; simp only [cmpB, moreK_len] at h; simpa using h
    obtain ⟨v, hv⟩ : ∃ x, ls[k]? = some x := ⟨_, List.getElem?_eq_getElem hkl⟩
    have hvm := moreK_at ps (p, q) hv
    have hv2 := hsm v (List.mem_of_getElem? hv)
    obtain ⟨⟨pa, pb⟩, hx⟩ : ∃ x, ps[k]? = some x := ⟨_, List.getElem?_eq_getElem (by omega)⟩
    obtain ⟨a2, rfl, -, -⟩ := hp.row hx
    have hpr : prAt ps k = (pa, pb) := by unfold prAt; rw [hx]; rfl
    have hkm : k < (moreK ls ps (p, q) k).length := by rw [moreK_len]; exact hkl
    have hsu := moreK_succ ls ps (p, q) k v hv
    rw [hpr] at hsu
    refine SxC.with (fun W H => own_some (H.get (i := 0) rfl) (by omega)) ?_
    rintro ⟨gl, rfl⟩
    refine SxC.drawnK [] [0, 1] (by kernel_rfl) rfl ⟨(fun g hg => .inr (hvL.fresh g hg)), (fun g hg => by rw [List.mem_singleton.1 hg]; exact .inr hg1), trivial⟩ ?_
    refine SxA.take (i := 0) rfl (by kernel_rfl) (by kernel_rfl) (by kernel_rfl) rfl rfl (fun _ _ _ h => h) trivial (fun ρ w E H => ex_move E rfl rfl) ?_
    refine SxA.take (i := 1) rfl (by kernel_rfl) (by kernel_rfl) (by kernel_rfl) rfl rfl (fun _ _ _ h => h) trivial (fun ρ w E H => ex_move E rfl rfl) ?_
    refine SxA.take (i := 2) (v := .pointer (some (a2.add (k * 2)))) rfl (by kernel_rfl) (by kernel_rfl) (by kernel_rfl) rfl rfl (fun _ _ _ h => h) trivial (fun ρ w E H => ex_index (i := k) E rfl Tryz.underlying51 sz_palaver_net_Pair rfl rfl (by omega)) ?_
    refine SxA.take (i := 3) (v := .agg #[.int .u8 (pa : Int), .int .u8 (pb : Int)]) rfl (by kernel_rfl) (by kernel_rfl) (by kernel_rfl) rfl rfl (fun _ _ _ h => h) trivial (fun ρ w E H => ex_loadX (cs := [.int .u8 (pa : Int), .int .u8 (pb : Int)]) E ((hp.below (H.os.below (Nat.le_refl _) (by simp))).rowA hx) rfl rfl Tryz.underlying57 rfl sz_palaver_net_Pair) ?_
    refine SxA.take (i := 4) rfl (by kernel_rfl) (by kernel_rfl) (by kernel_rfl) rfl rfl (fun _ _ _ h => h) trivial (fun ρ w E H => ex_load (part := [.int .u8 (p : Int), .int .u8 (q : Int)]) E (H.get (i := 1) rfl) rfl rfl Tryz.underlying57 rfl sz_palaver_net_Pair rfl rfl) ?_
    refine SxA.takeB (i := 5) rfl (by kernel_rfl) (by kernel_rfl) (by kernel_rfl) rfl rfl (fun _ _ _ h => h) trivial (fun ρ w E H => ex_aeql E rfl (by kernel_rfl) rfl rfl (fun w => eq_pair_lit pa pb p q w)) fun c22 hc22 => ?_
    refine SxA.take (i := 6) rfl (by kernel_rfl) (by kernel_rfl) (by kernel_rfl) rfl rfl (fun _ _ _ h => h) trivial (fun ρ w E H => ex_move E rfl rfl) ?_
    cases c22
    · refine SxA.takeOff (i := 7) rfl (by kernel_rfl) (by kernel_rfl) (by kernel_rfl) rfl rfl (fun _ _ _ h => h) ⟨_, _, _, rfl, rfl, rfl, nofun⟩ ?_
      refine SxA.takeOff (i := 8) rfl (by kernel_rfl) (by kernel_rfl) (by kernel_rfl) rfl rfl (fun _ _ _ h => h) ⟨_, _, _, rfl, rfl, rfl, nofun⟩ ?_
      refine SxA.takeOff (i := 9) rfl (by kernel_rfl) (by kernel_rfl) (by kernel_rfl) rfl rfl (fun _ _ _ h => h) ⟨_, _, _, rfl, rfl, rfl, nofun⟩ ?_
      refine SxA.takeOff (i := 10) rfl (by kernel_rfl) (by kernel_rfl) (by kernel_rfl) rfl rfl (fun _ _ _ h => h) ⟨_, _, _, rfl, rfl, rfl, nofun⟩ ?_
      refine SxA.takeOff (i := 11) rfl (by kernel_rfl) (by kernel_rfl) (by kernel_rfl) rfl rfl (fun _ _ _ h => h) ⟨_, _, _, rfl, rfl, rfl, nofun⟩ ?_
      refine SxA.take (i := 12) rfl (by kernel_rfl) (by kernel_rfl) (by kernel_rfl) rfl rfl (fun _ _ _ h => h) trivial (fun ρ w E H => ex_pick E rfl (t := false) rfl rfl) ?_
      refine SxA.done (by kernel_rfl) ?_
      refine SxN.then_ (SxC.condF rfl (SxC.skip (SxN.block (SxN.then_ ?_))))
      rw [if_neg (fun h => by have h2 := hc22; simp at h2; have h3 := h.1; simp at h3; exact h2 h3.1 h3.2)] at hsu
      refine SxC.hp (fun W H => H.re (i := 0) rfl (rowX [] w.heap.size 3 1 (.slice (some ⟨gl, 0, none⟩) ((moreK ls ps (p, q) k).length) cL) ((moreK ls ps (p, q) (k + 1)).length) ((moreK ls ps (p, q) (k + 1)).flatMap iL)) (rowX_loc _ _ _ _ _ _ _) rfl (fun h => own_as h (by rw [hsu]) (by rw [hsu]))) ?_
      refine SxC.region ?_
      refine SxL.val trivial rfl rfl (fun ρ w E H => ex_move E rfl rfl) ?_
      refine SxL.val (v := .int .i64 ((k + 1 : Nat) : Int)) trivial rfl rfl (fun ρ w E H => ex_add E rfl rfl rfl (by rw [IntKind.wrap_i64]; omega)) ?_
      refine SxL.val trivial rfl rfl (fun ρ w E H => ex_assign E rfl rfl) ?_
      refine SxL.nil ?_
      refine SxN.back (gk - 1) (k + 1, (.slice (some ⟨gl, 0, none⟩) ((moreK ls ps (p, q) k).length) cL)) (by omega) ⟨by omega, hvL⟩ ⟨rfl, rfl, rfl, rfl, rfl, trivial⟩ [0, 1] rfl (by decide) ⟨.inl rfl, .inl rfl, trivial⟩
    · refine SxA.take (i := 7) rfl (by kernel_rfl) (by kernel_rfl) (by kernel_rfl) rfl rfl (fun _ _ _ h => h) ⟨_, _, rfl, rfl, rfl⟩ (fun ρ w E H => ex_move E rfl rfl) ?_
      refine SxA.take (i := 8) rfl (by kernel_rfl) (by kernel_rfl) (by kernel_rfl) rfl rfl (fun _ _ _ h => h) ⟨_, _, rfl, rfl, rfl⟩ (fun ρ w E H => ex_move E rfl rfl) ?_
      refine SxA.take (i := 9) (v := .pointer (some ((⟨gl, 0, none⟩ : Addr).add (k * 1)))) rfl (by kernel_rfl) (by kernel_rfl) (by kernel_rfl) rfl rfl (fun _ _ _ h => h) ⟨_, _, rfl, rfl, rfl⟩ (fun ρ w E H => ex_index (i := k) E rfl Tryz.underlying50 sz_int rfl rfl hkm) ?_
      refine SxA.take (i := 10) (v := .int .i64 (v : Int)) rfl (by kernel_rfl) (by kernel_rfl) (by kernel_rfl) rfl rfl (fun _ _ _ h => h) ⟨_, _, rfl, rfl, rfl⟩ (fun ρ w E H => ex_loadX0 E ((own_readE iL_len (by decide) (H.get (i := 0) rfl)).rowA hvm) rfl rfl rfl Tryz.underlying3 rfl) ?_
      refine SxA.takeB (i := 11) rfl (by kernel_rfl) (by kernel_rfl) (by kernel_rfl) rfl rfl (fun _ _ _ h => h) ⟨_, _, rfl, rfl, rfl⟩ (fun ρ w E H => ex_cmp E rfl rfl rfl rfl rfl) fun c28 hc28 => ?_
      refine SxA.take (i := 12) rfl (by kernel_rfl) (by kernel_rfl) (by kernel_rfl) rfl rfl (fun _ _ _ h => h) trivial (fun ρ w E H => ex_pick E rfl (t := true) rfl rfl) ?_
      refine SxA.done (by kernel_rfl) ?_
      refine SxN.then_ ?_
      cases c28
      · refine SxC.condF rfl (SxC.skip (SxN.block (SxN.then_ ?_)))
        rw [if_neg (fun h => by have h2 := hc28; simp [cmpB] at h2; omega)] at hsu
        refine SxC.hp (fun W H => H.re (i := 0) rfl (rowX [] w.heap.size 3 1 (.slice (some ⟨gl, 0, none⟩) ((moreK ls ps (p, q) k).length) cL) ((moreK ls ps (p, q) (k + 1)).length) ((moreK ls ps (p, q) (k + 1)).flatMap iL)) (rowX_loc _ _ _ _ _ _ _) rfl (fun h => own_as h (by rw [hsu]) (by rw [hsu]))) ?_
        refine SxC.region ?_
        refine SxL.val trivial rfl rfl (fun ρ w E H => ex_move E rfl rfl) ?_
        refine SxL.val (v := .int .i64 ((k + 1 : Nat) : Int)) trivial rfl rfl (fun ρ w E H => ex_add E rfl rfl rfl (by rw [IntKind.wrap_i64]; omega)) ?_
        refine SxL.val trivial rfl rfl (fun ρ w E H => ex_assign E rfl rfl) ?_
        refine SxL.nil ?_
        refine SxN.back (gk - 1) (k + 1, (.slice (some ⟨gl, 0, none⟩) ((moreK ls ps (p, q) k).length) cL)) (by omega) ⟨by omega, hvL⟩ ⟨rfl, rfl, rfl, rfl, rfl, trivial⟩ [0, 1] rfl (by decide) ⟨.inl rfl, .inl rfl, trivial⟩
      · refine SxC.condT rfl (SxC.region ?_)
        iterate 2 refine SxL.val trivial rfl rfl (fun ρ w E H => ex_move E rfl rfl) ?_
        refine SxL.val (v := .pointer (some ((⟨gl, 0, none⟩ : Addr).add (k * 1)))) trivial rfl rfl (fun ρ w E H => ex_index (i := k) E rfl Tryz.underlying50 sz_int rfl rfl hkm) ?_
        refine SxL.val (v := .int .i64 (v : Int)) trivial rfl rfl (fun ρ w E H => ex_loadX0 E ((own_readE iL_len (by decide) (H.get (i := 0) rfl)).rowA hvm) rfl rfl rfl Tryz.underlying3 rfl) ?_
        refine SxL.val (v := .int .i64 ((v + 1 : Nat) : Int)) trivial rfl rfl (fun ρ w E H => ex_add E rfl rfl rfl (by rw [IntKind.wrap_i64]; omega)) ?_
        refine SxL.val (v := .pointer (some ((⟨gl, 0, none⟩ : Addr).add (k * 1)))) trivial rfl rfl (fun ρ w E H => ex_index (i := k) E rfl Tryz.underlying50 sz_int rfl rfl hkm) ?_
        refine SxL.skipG _ trivial rfl (fun ρ w E H => Hp.storeEl (cells := iL) (l := (moreK ls ps (p, q) k)) (y := (v + 1)) (k := k) (i := 0) iL_len E H rfl rfl rfl rfl hkm sz_int rfl rfl) ?_
        refine SxL.nil (SxN.block (SxN.then_ ?_))
        rw [if_pos ⟨by simpa using hc22, by have h := hc28; simp [cmpB] at h; omega⟩] at hsu
        refine SxC.hp (fun W H => H.re (i := 0) rfl (rowX [] w.heap.size 3 1 (.slice (some ⟨gl, 0, none⟩) ((moreK ls ps (p, q) k).length) cL) ((moreK ls ps (p, q) (k + 1)).length) ((moreK ls ps (p, q) (k + 1)).flatMap iL)) (rowX_loc _ _ _ _ _ _ _) rfl (fun h => own_as h (by rw [hsu]) (by rw [hsu]))) ?_
        refine SxC.region ?_
        refine SxL.val trivial rfl rfl (fun ρ w E H => ex_move E rfl rfl) ?_
        refine SxL.val (v := .int .i64 ((k + 1 : Nat) : Int)) trivial rfl rfl (fun ρ w E H => ex_add E rfl rfl rfl (by rw [IntKind.wrap_i64]; omega)) ?_
        refine SxL.val trivial rfl rfl (fun ρ w E H => ex_assign E rfl rfl) ?_
        refine SxL.nil ?_
        refine SxN.back (gk - 1) (k + 1, (.slice (some ⟨gl, 0, none⟩) ((moreK ls ps (p, q) k).length) cL)) (by omega) ⟨by omega, hvL⟩ ⟨rfl, rfl, rfl, rfl, rfl, trivial⟩ [0, 1] rfl (by decide) ⟨.inl rfl, .inl rfl, trivial⟩
end Go.Proofs.YteiaiilfekojfaaGreat.Net
end
section
set_option linter.unusedVariables false
set_option linter.unusedSimpArgs false
namespace Go.Proofs.YteiaiilfekojfaaGreat.Net
def ltP (a b : Nat × Nat) : Prop := a.1 < b.1 ∨ (a.1 = b.1 ∧ a.2 < b.2)
instance (a b : Nat × Nat) : Decidable (ltP a b) := by unfold ltP; exact inferInstance
theorem ltP_tri (a b : Nat × Nat) (h : ¬ ltP b a) (hne : a ≠ b) : ltP a b := by
  obtain ⟨a1, a2⟩ := a
  obtain ⟨b1, b2⟩ := b
  unfold ltP at *
  simp only [ne_eq, Prod.mk.injEq] at *
  omega
theorem ltP_trans {a b c : Nat × Nat} (h : ltP a b) (k : ¬ ltP c b) : ltP a c := by
  obtain ⟨a1, a2⟩ := a
  obtain ⟨b1, b2⟩ := b
  obtain ⟨c1, c2⟩ := c
  unfold ltP at *
  simp only at *
  omega
def cptL : List (Nat × Nat) → List (Nat × Nat)
  | [] => []
  | [a] => [a]
  | a :: b :: l => if a = b then cptL (b :: l) else a :: cptL (b :: l)
theorem cptL_snoc : ∀ (l : List (Nat × Nat)) (b a : Nat × Nat), cptL (l ++ [b] ++ [a]) = cptL (l ++ [b]) ++ (if a = b then [] else [a])
  | [], b, a => by
    show cptL [b, a] = [b] ++ _
    unfold cptL
    by_cases e : a = b
    · subst e; simp [cptL]
    · rw [if_neg (fun h => e h.symm), if_neg e]; simp [cptL]
  | [x], b, a => by
    show cptL [x, b, a] = cptL [x, b] ++ _
    have h := cptL_snoc [] b a
    simp only [List.nil_append, List.singleton_append] at h
    conv => lhs; unfold cptL
    conv => rhs; unfold cptL
    rw [h]
    split <;> rfl
  | x :: y :: l, b, a => by
    have h := cptL_snoc (y :: l) b a
    show cptL (x :: y :: (l ++ [b] ++ [a])) = cptL (x :: y :: (l ++ [b])) ++ _
    have h : cptL (y :: (l ++ [b] ++ [a])) = cptL (y :: (l ++ [b])) ++ (if a = b then [] else [a]) := h
    conv => lhs; unfold cptL
    conv => rhs; unfold cptL
    rw [h]
    split <;> rfl
theorem take_snocP {l : List (Nat × Nat)} {m : Nat} {a : Nat × Nat} (h : l[m]? = some a) : l.take (m + 1) = l.take m ++ [a] := by
  rw [List.take_add_one, h]; rfl
theorem cptL_take {l : List (Nat × Nat)} {m : Nat} {a b : Nat × Nat} (hm : 1 ≤ m) (hb : l[m - 1]? = some b) (ha : l[m]? = some a) : cptL (l.take (m + 1)) = cptL (l.take m) ++ (if a = b then [] else [a]) := by
  obtain ⟨k, rfl⟩ : ∃ k, m = k + 1 := ⟨m - 1, by omega⟩
  rw [Nat.add_sub_cancel] at hb
  rw [take_snocP ha, take_snocP hb]
  exact cptL_snoc _ _ _
theorem mem_cptL : ∀ (l : List (Nat × Nat)) (x : Nat × Nat), x ∈ cptL l ↔ x ∈ l
  | [], x => Iff.rfl
  | [a], x => Iff.rfl
  | a :: b :: l, x => by
    have h := mem_cptL (b :: l) x
    unfold cptL
    by_cases e : a = b
    · rw [if_pos e, h]
      subst e
      simp
    · rw [if_neg e, List.mem_cons, h, List.mem_cons (a := x) (b := a)]
theorem cptL_sorted : ∀ (l : List (Nat × Nat)), l.Pairwise (fun a b => ¬ ltP b a) → (cptL l).Pairwise ltP
  | [], _ => .nil
  | [a], _ => List.pairwise_singleton _ _
  | a :: b :: l, h => by
    obtain ⟨h1, h2⟩ := List.pairwise_cons.1 h
    have ih := cptL_sorted (b :: l) h2
    unfold cptL
    by_cases e : a = b
    · rw [if_pos e]; exact ih
    · rw [if_neg e]
      refine List.pairwise_cons.2 ⟨fun x hx => ?_, ih⟩
      rw [mem_cptL] at hx
      have hab := ltP_tri a b (h1 b (List.mem_cons_self ..)) e
      rcases List.mem_cons.1 hx with rfl | hx
      · exact hab
      · exact ltP_trans hab ((List.pairwise_cons.1 h2).1 x hx)
/-- What Pairs tells of a bag. -/
structure PairsOf (bag : List Pa) (Q : List (Nat × Nat)) : Prop where
  lt : Q.Pairwise ltP
  mem : ∀ p, p ∈ Q ↔ p ∈ bag.map fun x => (x.src, x.dst)
theorem PairsOf.mk' {bag : List Pa} {R : List (Nat × Nat)} (h1 : R.Perm (bag.map fun x => (x.src, x.dst))) (h2 : R.Pairwise (fun a b => ¬ ltP b a)) : PairsOf bag (cptL R) :=
  ⟨cptL_sorted R h2, fun p => by rw [mem_cptL, h1.mem_iff]⟩
theorem set_take_snoc {l : List (Nat × Nat)} {k : Nat} {a : Nat × Nat} (hk : k < l.length) : (l.set k a).take (k + 1) = l.take k ++ [a] := by
  rw [List.take_add_one, List.getElem?_set_self hk, List.take_set_of_le (Nat.le_refl _)]; rfl
end Go.Proofs.YteiaiilfekojfaaGreat.Net
end
section
set_option linter.unusedVariables false
set_option linter.unusedSimpArgs false
set_option linter.unusedSectionVars false
namespace Go.Proofs.YteiaiilfekojfaaGreat.Sx
open Go.RowKit DrawInv
theorem sliced_zeroN (b i n sz : Nat) : sliced (some ⟨b, 0, none⟩) 0 i n sz = .slice (some ⟨b, 0, none⟩) i n := by
  unfold sliced
  split
  · simp
  · simp [Addr.add_lit]
theorem sliced_tail (b k n cap sz : Nat) (h : k < cap) : sliced (some ⟨b, 0, none⟩) k n cap sz = .slice (some ⟨b, k * sz, none⟩) (n - k) (cap - k) := by
  unfold sliced
  rw [if_neg (by omega)]
  simp [Addr.add_lit]
section
variable {P : Program} {ρ : Operand → Value} {o : Oper} {w : World} {vs : Vs} {t e : TypeId} {x y z u : Operand} {A : Option Addr} {n cap l h m sz : Nat} {v : Value} {i : TypeInfo}
theorem size_of (hi : (P.info? e).map (·.size) = some sz) : (sizeOf e).run P w = .ok sz w := by
  cases hj : P.info? e with
  | none => rw [hj] at hi; cases hi
  | some i => rw [hj] at hi; injection hi with hi; simp [sizeOf, typeInfo, hj, hi]
theorem ex_slHn (E : Env vs ρ) (ho : o.op = .slice t x none (some z) none) (ht : P.underlying t = some (.slice e)) (hi : (P.info? e).map (·.size) = some sz) (hx : opv vs x = some (.slice A n cap)) (hz : opv vs z = some (.int .i64 (h : Int))) (h2 : h ≤ cap) (hv : sliced A 0 h cap sz = v) :
    (execOp ρ o).run P w = .ok (.value v) w := by
  subst hv
  obtain ⟨he, hee⟩ := elem_of ht
  unfold execOp; rw [ho]
  have h := run_slice_h (P := P) w t A n cap he .i64 (h : Int) (by omega) (by omega)
  have hs : (sizeOf e).run P w = .ok sz w := size_of hi
  simp only [Int.toNat_natCast, hee, hs, Result.andThen_ok] at h
  simp only [E.ev hx, E.ev hz, Option.map_some, Option.map_none, Instr.sliceAt, Sem.run_bind, run_underlying ht, h, Result.andThen_ok, Sem.run_pure]
theorem ex_slLn (E : Env vs ρ) (ho : o.op = .slice t x (some y) none none) (ht : P.underlying t = some (.slice e)) (hi : (P.info? e).map (·.size) = some sz) (hx : opv vs x = some (.slice A n cap)) (hy : opv vs y = some (.int .i64 (l : Int))) (h1 : l ≤ n) (hv : sliced A l n cap sz = v) :
    (execOp ρ o).run P w = .ok (.value v) w := by
  subst hv
  obtain ⟨he, hee⟩ := elem_of ht
  unfold execOp; rw [ho]
  have h := run_slice_l (P := P) w t A n cap he .i64 (l : Int) (by omega) (by omega)
  have hs : (sizeOf e).run P w = .ok sz w := size_of hi
  simp only [Int.toNat_natCast, hee, hs, Result.andThen_ok] at h
  simp only [E.ev hx, E.ev hy, Option.map_some, Option.map_none, Instr.sliceAt, Sem.run_bind, run_underlying ht, h, Result.andThen_ok, Sem.run_pure]
end
theorem rep_at {zs : List Value} : ∀ (n i : Nat), i < n * zs.length → ((List.replicate n zs).flatten)[i]? = zs[i % zs.length]?
  | 0, i, h => by omega
  | n + 1, i, h => by
    rw [List.replicate_succ, List.flatten_cons]
    rw [Nat.succ_mul] at h
    by_cases h1 : i < zs.length
    · rw [List.getElem?_append_left h1, Nat.mod_eq_of_lt h1]
    · have e := Nat.mod_eq_sub_mod (a := i) (b := zs.length) (by omega)
      rw [List.getElem?_append_right (by omega), rep_at n (i - zs.length) (by omega), e]
theorem run_clear_many {P : Program} (w : World) (t e ty : TypeId) (z : Value) (zs : List Value) (ht : P.underlying t = some (.slice e)) (hv : (P.info? e).bind (·.zero) = some z) (hz : z.cells.toList = zs) (h1 : ∀ u ∈ zs, u.oneCell' = true) (b o n c : Nat) (hn : 0 < n)
    (hc : ∀ j, j < n * zs.length → (w.cell? ⟨b, o + j, none⟩).isSome = true) (hf : ∀ j, j < n * zs.length → w.frozen? ⟨b, o + j, none⟩ = false) :
    (Builtin.clear_ #[t] ty #[.slice (some ⟨b, o, none⟩) n c]).run P w = .ok (.tuple #[]) (w.setCells b o (List.replicate n zs).flatten) := by
  have hzs : z.cells.size = zs.length := by rw [← hz]; simp
  have hfl : ((List.replicate n zs).flatten).length = n * zs.length := by simp
  have hzc : (Builtin.zeroCells z.cells n).toList = (List.replicate n zs).flatten := by
    refine List.ext_getElem? fun i => ?_
    by_cases hi : i < n * zs.length
    · rw [rep_at n i hi]
      have h0 : 0 < zs.length := by
        rcases Nat.eq_zero_or_pos zs.length with h | h
        · rw [h] at hi; omega
        · exact h
      have hm := Nat.mod_lt i h0
      unfold Builtin.zeroCells
      rw [Array.getElem?_toList, Array.getElem?_map, Array.getElem?_range, hzs, if_pos hi]
      have hm2 : i % zs.length < z.cells.size := by rw [hzs]; exact hm
      rw [Option.map_some, getElem!_pos z.cells _ hm2]
      have e : zs[i % zs.length]? = z.cells.toList[i % zs.length]? := by rw [hz]
      rw [e, Array.getElem?_toList, Array.getElem?_eq_getElem hm2]
    · rw [List.getElem?_eq_none (by simp [Builtin.zeroCells, hzs]; omega), List.getElem?_eq_none (by rw [hfl]; omega)]
  have hst := run_storeCells_cells (P := P) b o ((List.replicate n zs).flatten) 0 w (by rw [hfl]; simpa using hc) (by rw [hfl]; simpa using hf) (fun u hu => by
    obtain ⟨l, hl, hu⟩ := List.mem_flatten.1 hu
    rw [List.eq_of_mem_replicate hl] at hu
    exact h1 u hu)
  simp only [Nat.add_zero] at hst
  have hzv : (zeroValue e).run P w = .ok z w := by
    cases hi : P.info? e with
    | none => rw [hi] at hv; cases hv
    | some i =>
      rw [hi] at hv
      have hz : i.zero = some z := hv
      simp [zeroValue, typeInfo, hi, hz]
  obtain ⟨m, rfl⟩ : ∃ m, n = m + 1 := ⟨n - 1, by omega⟩
  simp [Builtin.clear_, run_underlying ht, hzv, hzc, hst]
/-- The tail of a row of one's own cleared. -/
theorem Hp.clearRow {P : Program} {ρ : Operand → Value} {vs : Vs} {w0 w : World} {L : List Ft} {o : Oper} {α : Type} {cells : α → List Value} {l : List α} {y : α} {i base et sz m c c' k g t : Nat} {ex : List Nat} {x : Operand} {z : Value} (hcl : ∀ x, (cells x).length = sz) (E : Env vs ρ) (H : Hp w0 L w) (ho : o.op = .call { callee := .builtin .clear, args := #[x], argTypes := #[t] }) (ht : P.underlying t = some (.slice et)) (hv : (P.info? et).bind (·.zero) = some z) (hz : z.cells.toList = cells y) (h1 : ∀ u ∈ cells y, u.oneCell' = true)
    (hL : nth L i = some (rowX ex base et sz (.slice (some ⟨g, 0, none⟩) m c) l.length (l.flatMap cells))) (hk : k < l.length) (hx : opv vs x = some (.slice (some ⟨g, k * sz, none⟩) (l.length - k) c')) :
    ∃ (_ : Unit) (w' : World), (execOp ρ o).run P w = .ok (.value (.tuple #[])) w' ∧ True ∧ Hp w0 (putF L i (rowX ex base et sz (.slice (some ⟨g, 0, none⟩) m c) (l.take k ++ List.replicate (l.length - k) y).length ((l.take k ++ List.replicate (l.length - k) y).flatMap cells))) w' := by
  have hown : w.ownsRow base et sz (.slice (some ⟨g, 0, none⟩) m c) l.length (l.flatMap cells) := H.get hL
  have hl' : (l.take k ++ List.replicate (l.length - k) y).length = l.length := by simp; omega
  rcases hown.2 with ⟨h0, _⟩ | ⟨g', cap, cur, ev, hb, hh, hc1, hc2, hc3, hc4⟩
  · cases h0
  injection ev with e1 e2 e3
  cases e1
  subst e3
  subst e2
  have hB : Blk w g et cur.toList.toArray := by rw [Array.toArray_toList]; exact hh
  have hlen : cur.toList.length = c * sz := by simpa using hc3
  have hle : l.length * sz ≤ c * sz := Nat.mul_le_mul_right _ hc1
  have hks : k * sz + (l.length - k) * sz = l.length * sz := by rw [← Nat.add_mul]; congr 1; omega
  have hfl : ((List.replicate (l.length - k) (cells y)).flatten).length = (l.length - k) * sz := by simp [hcl]
  have hr := run_clear_many (P := P) w t et o.type z (cells y) ht hv hz h1 g (k * sz) (l.length - k) c' (by omega) (fun j hj => by
    rw [hcl] at hj
    rw [hB.cell, List.getElem?_toArray, List.getElem?_eq_getElem (by rw [hlen]; omega)]; rfl) (fun j _ => hB.frozen _)
  have hb2 : Blk (w.setCells g (k * sz) (List.replicate (l.length - k) (cells y)).flatten) g et (putL cur.toList (k * sz) (List.replicate (l.length - k) (cells y)).flatten).toArray := by rw [← putL_is]; exact Blk.setCells _ _ hB
  have hgr := grown_setCells (g := g) (List.replicate (l.length - k) (cells y)).flatten (k * sz) (World.grownBy.refl w (some g))
  have hcur : cur.toList = l.flatMap cells ++ cur.toList.drop (l.length * sz) := by
    have := List.take_append_drop (l.length * sz) cur.toList
    rw [hc4] at this
    exact this.symm
  have hsp : l.flatMap cells = (l.take k).flatMap cells ++ (l.drop k).flatMap cells := by rw [← List.flatMap_append, List.take_append_drop]
  have htl : ((l.take k).flatMap cells).length = k * sz := by rw [flat_len hcl, List.length_take, Nat.min_eq_left (by omega)]
  have hrep : (List.replicate (l.length - k) (cells y)).flatten = (List.replicate (l.length - k) y).flatMap cells := by rw [List.flatMap_def, List.map_replicate]
  have hput : putL cur.toList (k * sz) (List.replicate (l.length - k) (cells y)).flatten = (l.take k ++ List.replicate (l.length - k) y).flatMap cells ++ cur.toList.drop (l.length * sz) := by
    have h5 := putL_mid3 ((List.replicate (l.length - k) (cells y)).flatten) ((l.take k).flatMap cells) ((l.drop k).flatMap cells) (cur.toList.drop (l.length * sz)) (by rw [flat_len hcl, hfl, List.length_drop])
    rw [htl] at h5
    conv => lhs; rw [hcur]
    rw [hsp, List.append_assoc, h5, List.flatMap_append, hrep, List.append_assoc]
  have hfl2 : ((l.take k ++ List.replicate (l.length - k) y).flatMap cells).length = l.length * sz := by rw [flat_len hcl, hl']
  have hlen2 : (putL cur.toList (k * sz) (List.replicate (l.length - k) (cells y)).flatten).length = c * sz := by rw [putL_length, hlen]
  have hin : g ∈ (rowX ex base et sz (.slice (some ⟨g, 0, none⟩) l.length c) l.length (l.flatMap cells)).fp := by simp [rowX, Value.ownBlock]
  refine ⟨(), _, ?_, trivial, H.chg hL _ (Outs.of_grown hgr hin) (rowX_loc _ _ _ _ _ _ _) (fun b hb => ⟨Nat.lt_of_lt_of_le ((H.ok _ (nth_mem hL)).2.1 b hb) hgr.size, .inl hb⟩) (fun b hb => .inl hb) ?_⟩
  · unfold execOp
    rw [ho]
    simp [E.ev hx, resolve, invoke, builtin, hr]
  · rw [hl']
    refine ⟨by rw [hfl2], .inr ⟨g, c, (putL cur.toList (k * sz) (List.replicate (l.length - k) (cells y)).flatten).toArray, rfl, hb, hb2, hc1, hc2, by simpa using hlen2, ?_⟩⟩
    show (putL cur.toList (k * sz) _).take _ = _
    rw [hput, List.take_left' (by rw [hfl2])]
theorem own_cap {w : World} {base m c sz n : Nat} {e : TypeId} {g : Nat} {xs : List Value} (h : w.ownsRow base e sz (.slice (some ⟨g, 0, none⟩) m c) n xs) : n ≤ c := by
  rcases h.2 with ⟨h0, _⟩ | ⟨g', cap, cur, ev, hb, hh, hc1, _⟩
  · cases h0
  · injection ev with _ _ e3
    omega
/-- The head of a row of one's own is one. -/
theorem own_head {α : Type} {cells : α → List Value} {w : World} {base m c sz g : Nat} {e : TypeId} {l : List α} (hcl : ∀ x, (cells x).length = sz) (h : w.ownsRow base e sz (.slice (some ⟨g, 0, none⟩) m c) l.length (l.flatMap cells)) (k : Nat) (hk : k ≤ l.length) : w.ownsRow base e sz (.slice (some ⟨g, 0, none⟩) k c) (l.take k).length ((l.take k).flatMap cells) := by
  have htl : (l.take k).length = k := by rw [List.length_take]; omega
  rcases h.2 with ⟨h0, _⟩ | ⟨g', cap, cur, ev, hb, hh, hc1, hc2, hc3, hc4⟩
  · cases h0
  · injection ev with e1 e2 e3
    cases e1
    subst e3
    rw [htl]
    refine ⟨by rw [flat_len hcl, htl], .inr ⟨g, c, cur, rfl, hb, hh, by omega, hc2, hc3, ?_⟩⟩
    have hle : k * sz ≤ l.length * sz := Nat.mul_le_mul_right _ hk
    rw [show cur.toList.take (k * sz) = (cur.toList.take (l.length * sz)).take (k * sz) by rw [List.take_take, Nat.min_eq_left hle], hc4]
    conv => lhs; rw [show l = l.take k ++ l.drop k from (List.take_append_drop k l).symm, List.flatMap_append]
    exact List.take_left' (by rw [flat_len hcl, htl])
theorem row_mid {w : World} {g a b sz : Nat} {cs : List Value} (h : RowAt w ((⟨g, 0, none⟩ : Addr).add ((a + b) * sz)) cs) : RowAt w ((⟨g, a * sz, none⟩ : Addr).add (b * sz)) cs := by
  rw [Addr.add_lit] at h ⊢
  rw [show a * sz + b * sz = 0 + (a + b) * sz by rw [Nat.add_mul]; omega]
  exact h
end Go.Proofs.YteiaiilfekojfaaGreat.Sx
end
section
set_option linter.unusedVariables false
set_option linter.unusedSimpArgs false
namespace Go.Proofs.YteiaiilfekojfaaGreat.Net
open Go Go.RowKit Bal

def ordP (a b : Nat × Nat) : Int := if cmpN a.1 b.1 ≠ 0 then cmpN a.1 b.1 else cmpN a.2 b.2
set_option maxHeartbeats 1000000 in
theorem pairs_cmp (a1 a2 b1 b2 : Nat) (w : World) : Calls Tryz.prog 69 #[.agg #[.int .u8 (a1 : Int), .int .u8 (a2 : Int)], .agg #[.int .u8 (b1 : Int), .int .u8 (b2 : Int)]] w fun e w' => e = .returned (.int .i64 (ordP (a1, a2) (b1, b2))) ∧ Al3 w w' := by
  have H := Lib.hid (show ordP (a1, a2) (b1, b2) = if cmpN a1 b1 ≠ 0 then cmpN a1 b1 else cmpN a2 b2 from rfl)
  go_enter Tryz.func69, Tryz.ntmps69
  go_wp2_with fail
  go_region_held3 (fun W : World => W.cell? ⟨w.heap.size, 0, none⟩ = some (.int .u8 (a1 : Int)) ∧ W.cell? ⟨w.heap.size, 1, none⟩ = some (.int .u8 (a2 : Int)) ∧ W.cell? ⟨w.heap.size + 1, 0, none⟩ = some (.int .u8 (b1 : Int)) ∧ W.cell? ⟨w.heap.size + 1, 1, none⟩ = some (.int .u8 (b2 : Int))) (go_keep) (first
    | (go_at_call 71; refine (cmp8 _ _ _).mono ?_; rintro e w' ⟨rfl, rfl⟩)
    | (go_at_call 70; refine (or2 _ _ _ _ (cells_3 _ _ _ _ _ _).1 (cells_3 _ _ _ _ _ _).2).mono ?_; rintro e w' ⟨rfl, hw⟩; rw [← H.out]; subst hw))
  all_goals (go_wp2; go_ret; exact ⟨rfl, _, _, _, rfl⟩)
end Go.Proofs.YteiaiilfekojfaaGreat.Net
end
section
set_option linter.unusedVariables false
set_option linter.unusedSimpArgs false
namespace Go.Proofs.YteiaiilfekojfaaGreat.Net
open Go.RowKit Go.Shelf Go.Sort Sx Bal
theorem flatP_at : ∀ (l : List (Nat × Nat)) (t : Nat), t < l.length * 2 → (l.flatMap prL)[t]? = some ((prL l.toArray[t / 2]!)[t % 2]!)
  | [], t, h => by simp at h
  | a :: l, t, h => by
    rw [List.flatMap_cons]
    by_cases h0 : t < 2
    · rw [List.getElem?_append_left (by rw [prL_len]; exact h0), Nat.div_eq_of_lt h0, Nat.mod_eq_of_lt h0]
      have e : (a :: l).toArray[0]! = a := rfl
      rw [e]
      rcases (show t = 0 ∨ t = 1 by omega) with rfl | rfl <;> rfl
    · obtain ⟨s, rfl⟩ : ∃ s, t = s + 2 := ⟨t - 2, by omega⟩
      rw [List.length_cons] at h
      have ih := flatP_at l s (by omega)
      rw [List.getElem?_append_right (by rw [prL_len]; omega), prL_len, Nat.add_sub_cancel, ih, Nat.add_mod_right, Nat.add_div_right _ (by decide)]
      have e : (a :: l).toArray[s / 2 + 1]! = l.toArray[s / 2]! := by simp
      rw [e]
theorem flatK_list (l : List (Nat × Nat)) : (flatK prL 2 l.toArray).toList = l.flatMap prL := by
  have h1 : (flatK prL 2 l.toArray).size = l.length * 2 := by rw [size_flatK]; simp
  refine List.ext_getElem? fun t => ?_
  by_cases h : t < l.length * 2
  · rw [flatP_at l t h, Array.getElem?_toList, Array.getElem?_eq_getElem (by rw [h1]; exact h), ← getElem!_pos _ t (by rw [h1]; exact h), get_flatK _ _ _ _ (by simpa using h)]
  · rw [List.getElem?_eq_none (by rw [Array.length_toList, h1]; omega), List.getElem?_eq_none (by rw [Sx.flat_len prL_len]; omega)]
theorem holds_row {w : World} {base g n c : Nat} {e : TypeId} {l : List (Nat × Nat)} (h : w.ownsRow base e 2 (.slice (some ⟨g, 0, none⟩) n c) l.length (l.flatMap prL)) : HoldsK prL 2 w g 0 l.toArray := by
  rcases h.2 with ⟨h0, _⟩ | ⟨g', cap, cur, ev, hb, hh, hc1, hc2, hc3, hc4⟩
  · cases h0
  · injection ev with e1 e2 e3
    cases e1
    intro j hj
    rw [size_flatK, List.size_toArray] at hj
    have hle : l.length * 2 ≤ cap * 2 := Nat.mul_le_mul_right _ hc1
    have hjc : j < cur.size := by omega
    have hv : cur[j]? = some ((flatK prL 2 l.toArray)[j]!) := by
      have e2 : (cur.toList.take (l.length * 2))[j]? = (l.flatMap prL)[j]? := by rw [hc4]
      rw [List.getElem?_take, if_pos hj, Array.getElem?_toList, flatP_at l j hj] at e2
      rw [e2, get_flatK _ _ _ _ (by simpa using hj)]
    refine ⟨?_, ?_⟩
    · unfold World.cell?
      rw [hh]
      simp only [Nat.zero_add]
      exact hv
    · unfold World.frozen?
      rw [hh]
      simp
theorem own_sorted {w : World} {base g n c m : Nat} {e : TypeId} {l : List (Nat × Nat)} {Q : Array (Nat × Nat)} {os : Array Obj} (h : w.ownsRow base e 2 (.slice (some ⟨g, 0, none⟩) n c) l.length (l.flatMap prL)) (hq : Q.size = l.length) :
    (sortWorldK prL 2 w g 0 m Q os).ownsRow base e 2 (.slice (some ⟨g, 0, none⟩) n c) Q.toList.length (Q.toList.flatMap prL) ∧ w.grownBy (sortWorldK prL 2 w g 0 m Q os) (some g) := by
  have hF := flatK_list Q.toList
  rw [Array.toArray_toList] at hF
  have hql : Q.toList.length = l.length := by rw [Array.length_toList, hq]
  rcases h.2 with ⟨h0, _⟩ | ⟨g', cap, cur, ev, hb, hh, hc1, hc2, hc3, hc4⟩
  · cases h0
  · injection ev with e1 e2 e3
    cases e1
    subst e3
    have hlt : g < w.heap.size := (Array.getElem?_eq_some_iff.1 hh).1
    have hle : l.length * 2 ≤ c * 2 := Nat.mul_le_mul_right _ hc1
    have hFs : (flatK prL 2 Q).size = l.length * 2 := by rw [size_flatK, hq]
    have hheap : (sortWorldK prL 2 w g 0 m Q os).heap = w.heap.modify g (onCells (putCells id 0 (flatK prL 2 Q))) ++ os := rfl
    have hmod : (w.heap.modify g (onCells (putCells id 0 (flatK prL 2 Q))))[g]? = some (.cells (putCells id 0 (flatK prL 2 Q) cur) e (0, 0)) := by
      rw [Array.getElem?_modify, if_pos rfl, hh]; rfl
    have hsz : (putCells id 0 (flatK prL 2 Q) cur).size = cur.size := by unfold putCells; simp
    refine ⟨⟨by rw [Sx.flat_len prL_len], .inr ⟨g, c, putCells id 0 (flatK prL 2 Q) cur, by rw [hql, e2], hb, ?_, by rw [hql]; exact hc1, hc2, by rw [hsz]; exact hc3, ?_⟩⟩, ⟨rfl, rfl, rfl, ?_, fun k hk hne => ?_⟩⟩
    · rw [hheap, Array.getElem?_append_left (by simpa using hlt)]
      exact hmod
    · rw [hql, ← hF]
      refine List.ext_getElem? fun t => ?_
      by_cases ht : t < l.length * 2
      · have htc : t < cur.size := by omega
        rw [List.getElem?_take, if_pos ht, Array.getElem?_toList, Array.getElem?_toList]
        unfold putCells
        rw [Array.getElem?_mapIdx, Array.getElem?_eq_getElem htc, Option.map_some, if_pos ⟨Nat.zero_le _, by rw [hFs]; omega⟩, Nat.sub_zero, Array.getElem?_eq_getElem (by rw [hFs]; exact ht)]
        rw [getElem!_pos _ t (by rw [hFs]; exact ht)]
        rfl
      · rw [List.getElem?_take, if_neg ht, List.getElem?_eq_none (by rw [Array.length_toList, hFs]; omega)]
    · rw [hheap, Array.size_append, Array.size_modify]; omega
    · rw [hheap, Array.getElem?_append_left (by simpa using hk), Array.getElem?_modify, if_neg (fun e => hne (by rw [e]))]
theorem ordP_lt (x y : Nat × Nat) : ltOf ordP x y = decide (ltP x y) := by
  obtain ⟨a1, a2⟩ := x
  obtain ⟨b1, b2⟩ := y
  have e : decide (ltP (a1, a2) (b1, b2)) = ltB ⟨a1, a2⟩ ⟨b1, b2⟩ := by
    unfold ltB
    rw [Bool.eq_iff_iff, decide_eq_true_iff]
    simp [ltP]
  rw [e, ordN_lt]
  rfl
theorem swo_pairs : SWO (ltOf ordP) where
  irrefl x := by rw [ordP_lt, decide_eq_false_iff_not]; unfold ltP; omega
  trans x y z h1 h2 := by
    rw [ordP_lt, decide_eq_true_eq] at *
    unfold ltP at *
    omega
  ntrans x y z h1 h2 := by
    rw [ordP_lt, decide_eq_false_iff_not] at *
    unfold ltP at *
    omega
theorem cmp_lays (g n : Nat) (w : World) : CmpLays Tryz.prog 69 #[] prL 2 ordP g 0 n w := fun m os dk hs x y =>
  (pairs_cmp x.1 x.2 y.1 y.2 _).mono fun e w' ⟨he, o1, o2, o3, hw⟩ => ⟨he, 1, #[o1] ++ #[o2] ++ #[o3], by
    rw [← hw, alloc_eq_grow, alloc_eq_grow, alloc_eq_grow, grow_grow, grow_grow]
    rfl⟩
theorem perm_of {l : List (Nat × Nat)} {Q : Array (Nat × Nat)} (h : PermIn 0 l.toArray.size l.toArray Q) : Q.size = l.length ∧ Q.toList.Perm l := by
  obtain ⟨h1, h2, h3⟩ := h
  have h1 : Q.size = l.length := by simpa using h1
  refine ⟨h1, ?_⟩
  have e1 : Q.extract 0 l.toArray.size = Q := by
    have : l.toArray.size = Q.size := by simp [h1]
    rw [this]; simp
  rw [e1] at h3
  simpa using h3
theorem sorted_of {n : Nat} {Q : Array (Nat × Nat)} (hn : Q.size = n) (h : SortedIn (ltOf ordP) 0 n Q) : Q.toList.Pairwise (fun a b => ¬ ltP b a) := by
  rw [List.pairwise_iff_getElem]
  intro i j hi hj hij
  have hi' : i < Q.size := by simpa using hi
  have hj' : j < Q.size := by simpa using hj
  have h1 := h i j (Nat.zero_le _) hij (by omega)
  rw [ordP_lt, decide_eq_false_iff_not, getElem!_pos Q j hj', getElem!_pos Q i hi'] at h1
  simpa using h1
end Go.Proofs.YteiaiilfekojfaaGreat.Net
end
