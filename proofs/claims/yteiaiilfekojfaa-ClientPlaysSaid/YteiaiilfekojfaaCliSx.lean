/- Chapter 27: the document hears, invokes; two letters compared: walked. Conditions: what the arguments hold. -/
import Derived.Test.YteiaiilfekojfaaCliT
import Derived.Test.YteiaiilfekojfaaSxB
import Derived.Test.YteiaiilfekojfaaCliSame
import Derived.Test.YteiaiilfekojfaaCliRA
import Derived.Test.YteiaiilfekojfaaCmdMay
set_option linter.unusedVariables false
set_option linter.unusedSimpArgs false
namespace Go.Proofs.Yteiaiilfekojfaa.Cli
open Go.RowKit Sx Wire Cmd DrawInv
theorem _root_.Go.Proofs.Yteiaiilfekojfaa.Sx.Hp.nilRowC {w0 w : World} {L : List Ft} (H : Hp w0 L w) (e : TypeId) (sz : Nat) : Hp w0 (rowX [] w0.heap.size e sz (.slice none 0 0) 0 [] :: L) w :=
  H.know _ (rowX_loc _ _ _ _ _ _ _) (fun g hg => by simp [rowX, Value.ownBlock] at hg) (World.ownsRow_nil _ _ _ _)
theorem ownC_none (w : World) : OwnIn w [] (.slice none 0 0) := fun g hg => by cases hg
theorem cmL_one (c : Cm) : ∀ u ∈ cmL c, u.oneCell' = true := by
  intro u hu
  simp only [cmL, cmC, List.mem_cons, List.not_mem_nil, or_false] at hu
  rcases hu with rfl | rfl | rfl | rfl | rfl | rfl | rfl <;> rfl
theorem flatC_one (l : List Cm) : ∀ u ∈ l.flatMap cmL, u.oneCell' = true := by
  intro u hu
  obtain ⟨c, _, h⟩ := List.mem_flatMap.1 hu
  exact cmL_one c u h
theorem ownC_read {w : World} {base e n c : Nat} {A : Option Addr} {l : List Cm} (h : w.ownsRow base e 7 (.slice A n c) l.length (l.flatMap cmL)) : Rows w A 7 cmL l := by
  obtain ⟨A', c', e', _, hr⟩ := own_rows cmL_len (by decide) h
  injection e' with e1 e2 e3
  subst e1
  exact hr
theorem ask_snoc (id n dst : Nat) (L : List Cm) (c : Cm) (wt : Bool) : askR ⟨id, n, L ++ [c], wt, dst⟩ = ⟨16 + id, dst, 1, 0, 0, 0, 0, 0, [], .slice none 0 0, .slice none 0 0, c, 0, []⟩ := by unfold askR; rw [last_snoc]; rfl
theorem ask_last {id n dst : Nat} {L : List Cm} {c : Cm} {wt : Bool} (h : lastR L = c) : askR ⟨id, n, L, wt, dst⟩ = ⟨16 + id, dst, 1, 0, 0, 0, 0, 0, [], .slice none 0 0, .slice none 0 0, c, 0, []⟩ := by unfold askR; rw [h]; rfl

set_option maxRecDepth 100000 in
set_option maxHeartbeats 4000000 in
theorem rinv_13 (id n dst : Nat) (L : List Cm) (xa xb xk xz : Nat) (xs xt xu : List UInt8) (A : Option Addr) (k : Nat) (w : World) (h4 : id < 4) (hm3 : L.length ≤ 900) (hr : Rows w A 7 cmL L) : Calls Try.prog 14 #[.agg #[.int .u8 (id : Int), .int .i64 (n : Int), .slice A L.length k, .bool true, .int .u8 (dst : Int)], .agg #[.int .u8 (xa : Int), .int .u32 (xb : Int), .int .u8 (xk : Int), .string ⟨xs.toArray⟩, .string ⟨xt.toArray⟩, .string ⟨xu.toArray⟩, .int .u8 (xz : Int)]] w fun e w' => e = .returned (.tuple #[.agg #[.int .u8 (id : Int), .int .i64 (n : Int), .slice A L.length k, .bool true, .int .u8 (dst : Int)], .agg #[.int .u8 0, .int .u8 0, .int .u8 0, .int .u64 0, .int .u8 0, .int .u64 0, .int .u64 0, .int .u8 0, .string ⟨[].toArray⟩, .slice none 0 0, .slice none 0 0, .int .u8 0, .int .u32 0, .int .u8 0, .string ⟨[].toArray⟩, .string ⟨[].toArray⟩, .string ⟨[].toArray⟩, .int .u8 0, .int .u8 0, .string ⟨[].toArray⟩], .int .i64 13]) ∧ Below w.heap.size w w' := by
  refine sx_enter (n := 36) [.agg #[.int .u8 (id : Int), .int .i64 (n : Int), .slice A L.length k, .bool true, .int .u8 (dst : Int)], .agg #[.int .u8 (xa : Int), .int .u32 (xb : Int), .int .u8 (xk : Int), .string ⟨xs.toArray⟩, .string ⟨xt.toArray⟩, .string ⟨xu.toArray⟩, .int .u8 (xz : Int)]] Try.func14 rfl rfl rfl (Hp.start w) ?_
  refine SxC.seq ?_
  refine SxC.region ?_
  refine SxL.new (cs := [.int .u8 (id : Int), .int .i64 (n : Int), .slice A L.length k, .bool true, .int .u8 (dst : Int)]) trivial rfl rfl (fun ρ w E H => ex_box E rfl rfl rfl) fun g1 hg1 => ?_
  refine SxL.new (cs := [.int .u8 (xa : Int), .int .u32 (xb : Int), .int .u8 (xk : Int), .string ⟨xs.toArray⟩, .string ⟨xt.toArray⟩, .string ⟨xu.toArray⟩, .int .u8 (xz : Int)]) trivial rfl rfl (fun ρ w E H => ex_box E rfl rfl rfl) fun g2 hg2 => ?_
  refine SxL.new (cs := [.int .u8 0, .int .i64 0, .slice none 0 0, .bool false, .int .u8 0]) trivial rfl rfl (fun ρ w E H => ex_alloc rfl zr_palaver_palaverref27_Client rfl) fun g3 hg3 => ?_
  refine SxL.new (cs := [.int .u8 0, .int .u8 0, .int .u8 0, .int .u64 0, .int .u8 0, .int .u64 0, .int .u64 0, .int .u8 0, .string ⟨[].toArray⟩, .slice none 0 0, .slice none 0 0, .int .u8 0, .int .u32 0, .int .u8 0, .string ⟨[].toArray⟩, .string ⟨[].toArray⟩, .string ⟨[].toArray⟩, .int .u8 0, .int .u8 0, .string ⟨[].toArray⟩]) trivial rfl rfl (fun ρ w E H => ex_alloc rfl zr_palaver_api_Letter rfl) fun g4 hg4 => ?_
  refine SxL.val (v := .int .i64 0) trivial rfl rfl (fun ρ w E H => ex_assign E rfl rfl) ?_
  refine SxL.nil ?_
  refine SxN.then_ ?_
  refine SxC.seq ?_
  refine SxC.seq ?_
  refine SxC.region ?_
  refine SxL.val (v := .pointer (some ⟨g1, 3, none⟩)) trivial rfl rfl (fun ρ w E H => ex_field E rfl fa_palaver_palaverref27_Client_3 rfl rfl) ?_
  refine SxL.val (v := .bool true) trivial rfl rfl (fun ρ w E H => ex_load1 E (H.get (i := 3) rfl) rfl rfl Try.underlying4 rfl rfl) ?_
  refine SxL.nil ?_
  refine SxN.then_ ?_
  refine SxC.condT rfl ?_
  refine SxC.seq ?_
  refine SxC.region ?_
  refine SxL.val (v := .agg #[.int .u8 (id : Int), .int .i64 (n : Int), .slice A L.length k, .bool true, .int .u8 (dst : Int)]) trivial rfl rfl (fun ρ w E H => ex_load (part := [.int .u8 (id : Int), .int .i64 (n : Int), .slice A L.length k, .bool true, .int .u8 (dst : Int)]) E (H.get (i := 3) rfl) rfl rfl Try.underlying32 rfl sz_palaver_palaverref27_Client rfl rfl) ?_
  refine SxL.val (v := .agg #[.int .u8 0, .int .u8 0, .int .u8 0, .int .u64 0, .int .u8 0, .int .u64 0, .int .u64 0, .int .u8 0, .string ⟨[].toArray⟩, .slice none 0 0, .slice none 0 0, .int .u8 0, .int .u32 0, .int .u8 0, .string ⟨[].toArray⟩, .string ⟨[].toArray⟩, .string ⟨[].toArray⟩, .int .u8 0, .int .u8 0, .string ⟨[].toArray⟩]) trivial rfl rfl (fun ρ w E H => ex_build (cs := [.int .u8 0, .int .u8 0, .int .u8 0, .int .u64 0, .int .u8 0, .int .u64 0, .int .u64 0, .int .u8 0, .string ⟨[].toArray⟩, .slice none 0 0, .slice none 0 0, .int .u8 0, .int .u32 0, .int .u8 0, .string ⟨[].toArray⟩, .string ⟨[].toArray⟩, .string ⟨[].toArray⟩, .int .u8 0, .int .u8 0, .string ⟨[].toArray⟩]) E rfl rfl (by kernel_rfl)) ?_
  refine SxL.storeX (i := 1) [.int .u8 (id : Int), .int .i64 (n : Int), .slice A L.length k, .bool true, .int .u8 (dst : Int)] trivial rfl rfl rfl rfl rfl sz_palaver_palaverref27_Client rfl rfl rfl (putL_all _ _ rfl) ?_
  refine SxL.storeX (i := 0) [.int .u8 0, .int .u8 0, .int .u8 0, .int .u64 0, .int .u8 0, .int .u64 0, .int .u64 0, .int .u8 0, .string ⟨[].toArray⟩, .slice none 0 0, .slice none 0 0, .int .u8 0, .int .u32 0, .int .u8 0, .string ⟨[].toArray⟩, .string ⟨[].toArray⟩, .string ⟨[].toArray⟩, .int .u8 0, .int .u8 0, .string ⟨[].toArray⟩] trivial rfl rfl rfl rfl rfl sz_palaver_api_Letter rfl rfl rfl (putL_all _ _ rfl) ?_
  refine SxL.val (v := .int .i64 13) trivial rfl rfl (fun ρ w E H => ex_assign E rfl rfl) ?_
  refine SxL.nil ?_
  refine SxN.then_ ?_
  refine SxC.ret ?_
  refine SxX.thenR ?_
  refine SxX.done (.tuple #[.agg #[.int .u8 (id : Int), .int .i64 (n : Int), .slice A L.length k, .bool true, .int .u8 (dst : Int)], .agg #[.int .u8 0, .int .u8 0, .int .u8 0, .int .u64 0, .int .u8 0, .int .u64 0, .int .u64 0, .int .u8 0, .string ⟨[].toArray⟩, .slice none 0 0, .slice none 0 0, .int .u8 0, .int .u32 0, .int .u8 0, .string ⟨[].toArray⟩, .string ⟨[].toArray⟩, .string ⟨[].toArray⟩, .int .u8 0, .int .u8 0, .string ⟨[].toArray⟩], .int .i64 13]) (fun a w K H => resM K [.agg #[.int .u8 (id : Int), .int .i64 (n : Int), .slice A L.length k, .bool true, .int .u8 (dst : Int)], .agg #[.int .u8 0, .int .u8 0, .int .u8 0, .int .u64 0, .int .u8 0, .int .u64 0, .int .u64 0, .int .u8 0, .string ⟨[].toArray⟩, .slice none 0 0, .slice none 0 0, .int .u8 0, .int .u32 0, .int .u8 0, .string ⟨[].toArray⟩, .string ⟨[].toArray⟩, .string ⟨[].toArray⟩, .int .u8 0, .int .u8 0, .string ⟨[].toArray⟩], .int .i64 13] rfl rfl ⟨⟨_, rfl, blk_loadVar (H.get (i := 1) rfl) Try.underlying32 rfl sz_palaver_palaverref27_Client⟩, ⟨_, rfl, blk_loadVar (H.get (i := 0) rfl) Try.underlying47 rfl sz_palaver_api_Letter⟩, rfl, trivial⟩) (fun w H => ?_)
  exact ⟨rfl, H.toBelow ⟨(fun g hg => by rw [List.mem_singleton.1 hg]; exact hg4), (fun g hg => by rw [List.mem_singleton.1 hg]; exact hg3), (fun g hg => by rw [List.mem_singleton.1 hg]; exact hg2), (fun g hg => by rw [List.mem_singleton.1 hg]; exact hg1), trivial⟩⟩

set_option maxRecDepth 100000 in
set_option maxHeartbeats 4000000 in
theorem rinv_2 (id n dst : Nat) (L : List Cm) (xa xb xk xz : Nat) (xs xt xu : List UInt8) (A : Option Addr) (k : Nat) (w : World) (h4 : id < 4) (hm3 : L.length ≤ 900) (hr : Rows w A 7 cmL L) (hmb : mayB (⟨id, L.length + 1, xk, xs, xt, xu, xz⟩ : Cm) = false) : Calls Try.prog 14 #[.agg #[.int .u8 (id : Int), .int .i64 (n : Int), .slice A L.length k, .bool false, .int .u8 (dst : Int)], .agg #[.int .u8 (xa : Int), .int .u32 (xb : Int), .int .u8 (xk : Int), .string ⟨xs.toArray⟩, .string ⟨xt.toArray⟩, .string ⟨xu.toArray⟩, .int .u8 (xz : Int)]] w fun e w' => e = .returned (.tuple #[.agg #[.int .u8 (id : Int), .int .i64 (n : Int), .slice A L.length k, .bool false, .int .u8 (dst : Int)], .agg #[.int .u8 0, .int .u8 0, .int .u8 0, .int .u64 0, .int .u8 0, .int .u64 0, .int .u64 0, .int .u8 0, .string ⟨[].toArray⟩, .slice none 0 0, .slice none 0 0, .int .u8 0, .int .u32 0, .int .u8 0, .string ⟨[].toArray⟩, .string ⟨[].toArray⟩, .string ⟨[].toArray⟩, .int .u8 0, .int .u8 0, .string ⟨[].toArray⟩], .int .i64 2]) ∧ Below w.heap.size w w' := by
  refine sx_enter (n := 36) [.agg #[.int .u8 (id : Int), .int .i64 (n : Int), .slice A L.length k, .bool false, .int .u8 (dst : Int)], .agg #[.int .u8 (xa : Int), .int .u32 (xb : Int), .int .u8 (xk : Int), .string ⟨xs.toArray⟩, .string ⟨xt.toArray⟩, .string ⟨xu.toArray⟩, .int .u8 (xz : Int)]] Try.func14 rfl rfl rfl (Hp.start w) ?_
  refine SxC.seq ?_
  refine SxC.region ?_
  refine SxL.new (cs := [.int .u8 (id : Int), .int .i64 (n : Int), .slice A L.length k, .bool false, .int .u8 (dst : Int)]) trivial rfl rfl (fun ρ w E H => ex_box E rfl rfl rfl) fun g1 hg1 => ?_
  refine SxL.new (cs := [.int .u8 (xa : Int), .int .u32 (xb : Int), .int .u8 (xk : Int), .string ⟨xs.toArray⟩, .string ⟨xt.toArray⟩, .string ⟨xu.toArray⟩, .int .u8 (xz : Int)]) trivial rfl rfl (fun ρ w E H => ex_box E rfl rfl rfl) fun g2 hg2 => ?_
  refine SxL.new (cs := [.int .u8 0, .int .i64 0, .slice none 0 0, .bool false, .int .u8 0]) trivial rfl rfl (fun ρ w E H => ex_alloc rfl zr_palaver_palaverref27_Client rfl) fun g3 hg3 => ?_
  refine SxL.new (cs := [.int .u8 0, .int .u8 0, .int .u8 0, .int .u64 0, .int .u8 0, .int .u64 0, .int .u64 0, .int .u8 0, .string ⟨[].toArray⟩, .slice none 0 0, .slice none 0 0, .int .u8 0, .int .u32 0, .int .u8 0, .string ⟨[].toArray⟩, .string ⟨[].toArray⟩, .string ⟨[].toArray⟩, .int .u8 0, .int .u8 0, .string ⟨[].toArray⟩]) trivial rfl rfl (fun ρ w E H => ex_alloc rfl zr_palaver_api_Letter rfl) fun g4 hg4 => ?_
  refine SxL.val (v := .int .i64 0) trivial rfl rfl (fun ρ w E H => ex_assign E rfl rfl) ?_
  refine SxL.nil ?_
  refine SxN.then_ ?_
  refine SxC.seq ?_
  refine SxC.seq ?_
  refine SxC.region ?_
  refine SxL.val (v := .pointer (some ⟨g1, 3, none⟩)) trivial rfl rfl (fun ρ w E H => ex_field E rfl fa_palaver_palaverref27_Client_3 rfl rfl) ?_
  refine SxL.val (v := .bool false) trivial rfl rfl (fun ρ w E H => ex_load1 E (H.get (i := 3) rfl) rfl rfl Try.underlying4 rfl rfl) ?_
  refine SxL.nil ?_
  refine SxN.then_ ?_
  refine SxC.condF rfl ?_
  refine SxC.skip ?_
  refine SxN.then_ ?_
  refine SxC.seq ?_
  refine SxC.region ?_
  refine SxL.val (v := .pointer (some ⟨g1, 0, none⟩)) trivial rfl rfl (fun ρ w E H => ex_field E rfl fa_palaver_palaverref27_Client_0 rfl rfl) ?_
  refine SxL.val (v := .int .u8 (id : Int)) trivial rfl rfl (fun ρ w E H => ex_load1 E (H.get (i := 3) rfl) rfl rfl Try.underlying5 rfl rfl) ?_
  refine SxL.val (v := .pointer (some ⟨g2, 0, none⟩)) trivial rfl rfl (fun ρ w E H => ex_field E rfl fa_palaver_api_Cmd_0 rfl rfl) ?_
  refine SxL.storeX (i := 2) [.int .u8 (id : Int), .int .u32 (xb : Int), .int .u8 (xk : Int), .string ⟨xs.toArray⟩, .string ⟨xt.toArray⟩, .string ⟨xu.toArray⟩, .int .u8 (xz : Int)] trivial rfl rfl rfl rfl rfl sz_uint8 rfl rfl rfl rfl ?_
  refine SxL.nil ?_
  refine SxN.then_ ?_
  refine SxC.seq ?_
  refine SxC.region ?_
  refine SxL.val (v := .pointer (some ⟨g1, 2, none⟩)) trivial rfl rfl (fun ρ w E H => ex_field E rfl fa_palaver_palaverref27_Client_2 rfl rfl) ?_
  refine SxL.val (v := .slice A L.length k) trivial rfl rfl (fun ρ w E H => ex_load1 E (H.get (i := 3) rfl) rfl rfl Try.underlying30 rfl rfl) ?_
  refine SxL.val (v := .int .i64 (L.length : Int)) trivial rfl rfl (fun ρ w E H => ex_lenS E rfl Try.underlying30 rfl) ?_
  refine SxL.val (v := .int .u32 (L.length : Int)) trivial rfl rfl (fun ρ w E H => ex_convInt E rfl Try.underlying3 Try.underlying34 rfl (by rw [IntKind.wrap_u32]; omega)) ?_
  refine SxL.val (v := .int .u32 ((L.length + 1 : Nat) : Int)) trivial rfl rfl (fun ρ w E H => ex_add E rfl rfl rfl (by rw [IntKind.wrap_u32]; omega)) ?_
  refine SxL.val (v := .pointer (some ⟨g2, 1, none⟩)) trivial rfl rfl (fun ρ w E H => ex_field E rfl fa_palaver_api_Cmd_1 rfl rfl) ?_
  refine SxL.storeX (i := 2) [.int .u8 (id : Int), .int .u32 ((L.length + 1 : Nat) : Int), .int .u8 (xk : Int), .string ⟨xs.toArray⟩, .string ⟨xt.toArray⟩, .string ⟨xu.toArray⟩, .int .u8 (xz : Int)] trivial rfl rfl rfl rfl rfl sz_uint32 rfl rfl rfl rfl ?_
  refine SxL.nil ?_
  refine SxN.then_ ?_
  refine SxC.seq ?_
  refine SxC.seq ?_
  refine SxC.region ?_
  refine SxL.val (v := .agg #[.int .u8 (id : Int), .int .u32 ((L.length + 1 : Nat) : Int), .int .u8 (xk : Int), .string ⟨xs.toArray⟩, .string ⟨xt.toArray⟩, .string ⟨xu.toArray⟩, .int .u8 (xz : Int)]) trivial rfl rfl (fun ρ w E H => ex_load (part := [.int .u8 (id : Int), .int .u32 ((L.length + 1 : Nat) : Int), .int .u8 (xk : Int), .string ⟨xs.toArray⟩, .string ⟨xt.toArray⟩, .string ⟨xu.toArray⟩, .int .u8 (xz : Int)]) E (H.get (i := 2) rfl) rfl rfl Try.underlying36 rfl sz_palaver_api_Cmd rfl rfl) ?_
  refine SxL.callB (v := .bool false) trivial rfl rfl (fun ρ w E => ex_call E en_palaver_palaverref09_May rfl rfl) (fun w H => (refMay_any (⟨id, L.length + 1, xk, xs, xt, xu, xz⟩ : Cm) w).mono fun _ _ h => ⟨by rw [h.1, hmb], h.2⟩) ?_
  refine SxL.val (v := .bool true) trivial rfl rfl (fun ρ w E H => ex_not (t := false) E rfl rfl) ?_
  refine SxL.nil ?_
  refine SxN.then_ ?_
  refine SxC.condT rfl ?_
  refine SxC.seq ?_
  refine SxC.region ?_
  refine SxL.val (v := .agg #[.int .u8 (id : Int), .int .i64 (n : Int), .slice A L.length k, .bool false, .int .u8 (dst : Int)]) trivial rfl rfl (fun ρ w E H => ex_load (part := [.int .u8 (id : Int), .int .i64 (n : Int), .slice A L.length k, .bool false, .int .u8 (dst : Int)]) E (H.get (i := 3) rfl) rfl rfl Try.underlying32 rfl sz_palaver_palaverref27_Client rfl rfl) ?_
  refine SxL.val (v := .agg #[.int .u8 0, .int .u8 0, .int .u8 0, .int .u64 0, .int .u8 0, .int .u64 0, .int .u64 0, .int .u8 0, .string ⟨[].toArray⟩, .slice none 0 0, .slice none 0 0, .int .u8 0, .int .u32 0, .int .u8 0, .string ⟨[].toArray⟩, .string ⟨[].toArray⟩, .string ⟨[].toArray⟩, .int .u8 0, .int .u8 0, .string ⟨[].toArray⟩]) trivial rfl rfl (fun ρ w E H => ex_build (cs := [.int .u8 0, .int .u8 0, .int .u8 0, .int .u64 0, .int .u8 0, .int .u64 0, .int .u64 0, .int .u8 0, .string ⟨[].toArray⟩, .slice none 0 0, .slice none 0 0, .int .u8 0, .int .u32 0, .int .u8 0, .string ⟨[].toArray⟩, .string ⟨[].toArray⟩, .string ⟨[].toArray⟩, .int .u8 0, .int .u8 0, .string ⟨[].toArray⟩]) E rfl rfl (by kernel_rfl)) ?_
  refine SxL.storeX (i := 1) [.int .u8 (id : Int), .int .i64 (n : Int), .slice A L.length k, .bool false, .int .u8 (dst : Int)] trivial rfl rfl rfl rfl rfl sz_palaver_palaverref27_Client rfl rfl rfl (putL_all _ _ rfl) ?_
  refine SxL.storeX (i := 0) [.int .u8 0, .int .u8 0, .int .u8 0, .int .u64 0, .int .u8 0, .int .u64 0, .int .u64 0, .int .u8 0, .string ⟨[].toArray⟩, .slice none 0 0, .slice none 0 0, .int .u8 0, .int .u32 0, .int .u8 0, .string ⟨[].toArray⟩, .string ⟨[].toArray⟩, .string ⟨[].toArray⟩, .int .u8 0, .int .u8 0, .string ⟨[].toArray⟩] trivial rfl rfl rfl rfl rfl sz_palaver_api_Letter rfl rfl rfl (putL_all _ _ rfl) ?_
  refine SxL.val (v := .int .i64 2) trivial rfl rfl (fun ρ w E H => ex_assign E rfl rfl) ?_
  refine SxL.nil ?_
  refine SxN.then_ ?_
  refine SxC.ret ?_
  refine SxX.thenR ?_
  refine SxX.done (.tuple #[.agg #[.int .u8 (id : Int), .int .i64 (n : Int), .slice A L.length k, .bool false, .int .u8 (dst : Int)], .agg #[.int .u8 0, .int .u8 0, .int .u8 0, .int .u64 0, .int .u8 0, .int .u64 0, .int .u64 0, .int .u8 0, .string ⟨[].toArray⟩, .slice none 0 0, .slice none 0 0, .int .u8 0, .int .u32 0, .int .u8 0, .string ⟨[].toArray⟩, .string ⟨[].toArray⟩, .string ⟨[].toArray⟩, .int .u8 0, .int .u8 0, .string ⟨[].toArray⟩], .int .i64 2]) (fun a w K H => resM K [.agg #[.int .u8 (id : Int), .int .i64 (n : Int), .slice A L.length k, .bool false, .int .u8 (dst : Int)], .agg #[.int .u8 0, .int .u8 0, .int .u8 0, .int .u64 0, .int .u8 0, .int .u64 0, .int .u64 0, .int .u8 0, .string ⟨[].toArray⟩, .slice none 0 0, .slice none 0 0, .int .u8 0, .int .u32 0, .int .u8 0, .string ⟨[].toArray⟩, .string ⟨[].toArray⟩, .string ⟨[].toArray⟩, .int .u8 0, .int .u8 0, .string ⟨[].toArray⟩], .int .i64 2] rfl rfl ⟨⟨_, rfl, blk_loadVar (H.get (i := 1) rfl) Try.underlying32 rfl sz_palaver_palaverref27_Client⟩, ⟨_, rfl, blk_loadVar (H.get (i := 0) rfl) Try.underlying47 rfl sz_palaver_api_Letter⟩, rfl, trivial⟩) (fun w H => ?_)
  exact ⟨rfl, H.toBelow ⟨(fun g hg => by rw [List.mem_singleton.1 hg]; exact hg4), (fun g hg => by rw [List.mem_singleton.1 hg]; exact hg3), (fun g hg => by rw [List.mem_singleton.1 hg]; exact hg2), (fun g hg => by rw [List.mem_singleton.1 hg]; exact hg1), trivial⟩⟩

set_option maxRecDepth 100000 in
set_option maxHeartbeats 4000000 in
theorem rinv_ok (id n dst : Nat) (L : List Cm) (xa xb xk xz : Nat) (xs xt xu : List UInt8) (A : Option Addr) (k : Nat) (w : World) (h4 : id < 4) (hm3 : L.length ≤ 900) (hr : Rows w A 7 cmL L) (hmb : mayB (⟨id, L.length + 1, xk, xs, xt, xu, xz⟩ : Cm) = true) : Calls Try.prog 14 #[.agg #[.int .u8 (id : Int), .int .i64 (n : Int), .slice A L.length k, .bool false, .int .u8 (dst : Int)], .agg #[.int .u8 (xa : Int), .int .u32 (xb : Int), .int .u8 (xk : Int), .string ⟨xs.toArray⟩, .string ⟨xt.toArray⟩, .string ⟨xu.toArray⟩, .int .u8 (xz : Int)]] w fun e w' => ∃ V, e = .returned (.tuple #[.agg #[.int .u8 (id : Int), .int .i64 (n : Int), V, .bool true, .int .u8 (dst : Int)], .agg #[.int .u8 ((16 + id : Nat) : Int), .int .u8 (dst : Int), .int .u8 1, .int .u64 0, .int .u8 0, .int .u64 0, .int .u64 0, .int .u8 0, .string ⟨[].toArray⟩, .slice none 0 0, .slice none 0 0, .int .u8 (id : Int), .int .u32 ((L.length + 1 : Nat) : Int), .int .u8 (xk : Int), .string ⟨xs.toArray⟩, .string ⟨xt.toArray⟩, .string ⟨xu.toArray⟩, .int .u8 (xz : Int), .int .u8 0, .string ⟨[].toArray⟩], .int .i64 0]) ∧ w'.ownsRow w.heap.size 36 7 V (L ++ [(⟨id, L.length + 1, xk, xs, xt, xu, xz⟩ : Cm)]).length ((L ++ [(⟨id, L.length + 1, xk, xs, xt, xu, xz⟩ : Cm)]).flatMap cmL) ∧ Below w.heap.size w w' := by
  have hnone := ownC_none w
  refine sx_enter (n := 36) [.agg #[.int .u8 (id : Int), .int .i64 (n : Int), .slice A L.length k, .bool false, .int .u8 (dst : Int)], .agg #[.int .u8 (xa : Int), .int .u32 (xb : Int), .int .u8 (xk : Int), .string ⟨xs.toArray⟩, .string ⟨xt.toArray⟩, .string ⟨xu.toArray⟩, .int .u8 (xz : Int)]] Try.func14 rfl rfl rfl (Hp.start w) ?_
  refine SxC.seq ?_
  refine SxC.region ?_
  refine SxL.new (cs := [.int .u8 (id : Int), .int .i64 (n : Int), .slice A L.length k, .bool false, .int .u8 (dst : Int)]) trivial rfl rfl (fun ρ w E H => ex_box E rfl rfl rfl) fun g1 hg1 => ?_
  refine SxL.new (cs := [.int .u8 (xa : Int), .int .u32 (xb : Int), .int .u8 (xk : Int), .string ⟨xs.toArray⟩, .string ⟨xt.toArray⟩, .string ⟨xu.toArray⟩, .int .u8 (xz : Int)]) trivial rfl rfl (fun ρ w E H => ex_box E rfl rfl rfl) fun g2 hg2 => ?_
  refine SxL.new (cs := [.int .u8 0, .int .i64 0, .slice none 0 0, .bool false, .int .u8 0]) trivial rfl rfl (fun ρ w E H => ex_alloc rfl zr_palaver_palaverref27_Client rfl) fun g3 hg3 => ?_
  refine SxL.new (cs := [.int .u8 0, .int .u8 0, .int .u8 0, .int .u64 0, .int .u8 0, .int .u64 0, .int .u64 0, .int .u8 0, .string ⟨[].toArray⟩, .slice none 0 0, .slice none 0 0, .int .u8 0, .int .u32 0, .int .u8 0, .string ⟨[].toArray⟩, .string ⟨[].toArray⟩, .string ⟨[].toArray⟩, .int .u8 0, .int .u8 0, .string ⟨[].toArray⟩]) trivial rfl rfl (fun ρ w E H => ex_alloc rfl zr_palaver_api_Letter rfl) fun g4 hg4 => ?_
  refine SxL.val (v := .int .i64 0) trivial rfl rfl (fun ρ w E H => ex_assign E rfl rfl) ?_
  refine SxL.nil ?_
  refine SxN.then_ ?_
  refine SxC.seq ?_
  refine SxC.seq ?_
  refine SxC.region ?_
  refine SxL.val (v := .pointer (some ⟨g1, 3, none⟩)) trivial rfl rfl (fun ρ w E H => ex_field E rfl fa_palaver_palaverref27_Client_3 rfl rfl) ?_
  refine SxL.val (v := .bool false) trivial rfl rfl (fun ρ w E H => ex_load1 E (H.get (i := 3) rfl) rfl rfl Try.underlying4 rfl rfl) ?_
  refine SxL.nil ?_
  refine SxN.then_ ?_
  refine SxC.condF rfl ?_
  refine SxC.skip ?_
  refine SxN.then_ ?_
  refine SxC.seq ?_
  refine SxC.region ?_
  refine SxL.val (v := .pointer (some ⟨g1, 0, none⟩)) trivial rfl rfl (fun ρ w E H => ex_field E rfl fa_palaver_palaverref27_Client_0 rfl rfl) ?_
  refine SxL.val (v := .int .u8 (id : Int)) trivial rfl rfl (fun ρ w E H => ex_load1 E (H.get (i := 3) rfl) rfl rfl Try.underlying5 rfl rfl) ?_
  refine SxL.val (v := .pointer (some ⟨g2, 0, none⟩)) trivial rfl rfl (fun ρ w E H => ex_field E rfl fa_palaver_api_Cmd_0 rfl rfl) ?_
  refine SxL.storeX (i := 2) [.int .u8 (id : Int), .int .u32 (xb : Int), .int .u8 (xk : Int), .string ⟨xs.toArray⟩, .string ⟨xt.toArray⟩, .string ⟨xu.toArray⟩, .int .u8 (xz : Int)] trivial rfl rfl rfl rfl rfl sz_uint8 rfl rfl rfl rfl ?_
  refine SxL.nil ?_
  refine SxN.then_ ?_
  refine SxC.seq ?_
  refine SxC.region ?_
  refine SxL.val (v := .pointer (some ⟨g1, 2, none⟩)) trivial rfl rfl (fun ρ w E H => ex_field E rfl fa_palaver_palaverref27_Client_2 rfl rfl) ?_
  refine SxL.val (v := .slice A L.length k) trivial rfl rfl (fun ρ w E H => ex_load1 E (H.get (i := 3) rfl) rfl rfl Try.underlying30 rfl rfl) ?_
  refine SxL.val (v := .int .i64 (L.length : Int)) trivial rfl rfl (fun ρ w E H => ex_lenS E rfl Try.underlying30 rfl) ?_
  refine SxL.val (v := .int .u32 (L.length : Int)) trivial rfl rfl (fun ρ w E H => ex_convInt E rfl Try.underlying3 Try.underlying34 rfl (by rw [IntKind.wrap_u32]; omega)) ?_
  refine SxL.val (v := .int .u32 ((L.length + 1 : Nat) : Int)) trivial rfl rfl (fun ρ w E H => ex_add E rfl rfl rfl (by rw [IntKind.wrap_u32]; omega)) ?_
  refine SxL.val (v := .pointer (some ⟨g2, 1, none⟩)) trivial rfl rfl (fun ρ w E H => ex_field E rfl fa_palaver_api_Cmd_1 rfl rfl) ?_
  refine SxL.storeX (i := 2) [.int .u8 (id : Int), .int .u32 ((L.length + 1 : Nat) : Int), .int .u8 (xk : Int), .string ⟨xs.toArray⟩, .string ⟨xt.toArray⟩, .string ⟨xu.toArray⟩, .int .u8 (xz : Int)] trivial rfl rfl rfl rfl rfl sz_uint32 rfl rfl rfl rfl ?_
  refine SxL.nil ?_
  refine SxN.then_ ?_
  refine SxC.seq ?_
  refine SxC.seq ?_
  refine SxC.region ?_
  refine SxL.val (v := .agg #[.int .u8 (id : Int), .int .u32 ((L.length + 1 : Nat) : Int), .int .u8 (xk : Int), .string ⟨xs.toArray⟩, .string ⟨xt.toArray⟩, .string ⟨xu.toArray⟩, .int .u8 (xz : Int)]) trivial rfl rfl (fun ρ w E H => ex_load (part := [.int .u8 (id : Int), .int .u32 ((L.length + 1 : Nat) : Int), .int .u8 (xk : Int), .string ⟨xs.toArray⟩, .string ⟨xt.toArray⟩, .string ⟨xu.toArray⟩, .int .u8 (xz : Int)]) E (H.get (i := 2) rfl) rfl rfl Try.underlying36 rfl sz_palaver_api_Cmd rfl rfl) ?_
  refine SxL.callB (v := .bool true) trivial rfl rfl (fun ρ w E => ex_call E en_palaver_palaverref09_May rfl rfl) (fun w H => (refMay_any (⟨id, L.length + 1, xk, xs, xt, xu, xz⟩ : Cm) w).mono fun _ _ h => ⟨by rw [h.1, hmb], h.2⟩) ?_
  refine SxL.val (v := .bool false) trivial rfl rfl (fun ρ w E H => ex_not (t := true) E rfl rfl) ?_
  refine SxL.nil ?_
  refine SxN.then_ ?_
  refine SxC.condF rfl ?_
  refine SxC.skip ?_
  refine SxN.then_ ?_
  refine SxC.seq ?_
  refine SxC.hp (fun W H => H.nilRowC 36 7) ?_
  refine SxC.drawnK [] [1, 2, 3] (by kernel_rfl) rfl ⟨(fun g hg => .inr (hnone.fresh g hg)), (fun g hg => by rw [List.mem_singleton.1 hg]; exact .inr hg4), (fun g hg => by rw [List.mem_singleton.1 hg]; exact .inr hg3), (fun g hg => by rw [List.mem_singleton.1 hg]; exact .inr hg2), (fun g hg => by rw [List.mem_singleton.1 hg]; exact .inr hg1), trivial⟩ ?_
  refine SxA.take (i := 0) (v := .pointer (some ⟨g1, 2, none⟩)) rfl (by kernel_rfl) (by kernel_rfl) (by kernel_rfl) rfl rfl (fun _ _ _ h => h) trivial (fun ρ w E H => ex_field E rfl fa_palaver_palaverref27_Client_2 rfl rfl) ?_
  refine SxA.take (i := 3) (v := .agg #[.int .u8 (id : Int), .int .u32 ((L.length + 1 : Nat) : Int), .int .u8 (xk : Int), .string ⟨xs.toArray⟩, .string ⟨xt.toArray⟩, .string ⟨xu.toArray⟩, .int .u8 (xz : Int)]) rfl (by kernel_rfl) (by kernel_rfl) (by kernel_rfl) rfl rfl (fun _ _ _ h => h) trivial (fun ρ w E H => ex_load (part := [.int .u8 (id : Int), .int .u32 ((L.length + 1 : Nat) : Int), .int .u8 (xk : Int), .string ⟨xs.toArray⟩, .string ⟨xt.toArray⟩, .string ⟨xu.toArray⟩, .int .u8 (xz : Int)]) E (H.get (i := 2) rfl) rfl rfl Try.underlying36 rfl sz_palaver_api_Cmd rfl rfl) ?_
  refine SxA.ready [1, 4] (by kernel_rfl) (by simp) ⟨?_, ?_, trivial⟩
  · refine SxO.val (v := .slice A L.length k) rfl trivial rfl rfl (fun ρ w E H => ex_load1 E (H.get (i := 4) rfl) rfl rfl Try.underlying30 rfl rfl) ?_
    refine SxA.ready [2, 4] (by kernel_rfl) (by simp) ⟨?_, ?_, trivial⟩
    · refine SxO.append (i := 0) (news := L.flatMap cmL) rfl trivial rfl rfl rfl Try.underlying30 nf_palaver_api_Cmd rfl rfl rfl rfl hnone rfl (fun W H => ⟨_, rows_reads cmL_len (by decide) (hr.below (H.toBelow ⟨hnone.fresh, (fun g hg => by rw [List.mem_singleton.1 hg]; exact hg4), (fun g hg => by rw [List.mem_singleton.1 hg]; exact hg3), (fun g hg => by rw [List.mem_singleton.1 hg]; exact hg2), (fun g hg => by rw [List.mem_singleton.1 hg]; exact hg1), trivial⟩))⟩) (flatC_one _) (by unfold maxLen; omega) (by omega) (Nat.le_refl _) (fun A27 k27 w hv27 H => H.ks [] [1, 2, 3] rfl ⟨(fun g hg => .inr (hv27.fresh g hg)), (fun g hg => by rw [List.mem_singleton.1 hg]; exact .inr hg4), (fun g hg => by rw [List.mem_singleton.1 hg]; exact .inr hg3), (fun g hg => by rw [List.mem_singleton.1 hg]; exact .inr hg2), (fun g hg => by rw [List.mem_singleton.1 hg]; exact .inr hg1), trivial⟩) fun A27 k27 hv27 => ?_
      refine SxA.ready [4] (by kernel_rfl) (by simp) ⟨?_, trivial⟩
      refine SxO.newS (cs := [.int .u8 (id : Int), .int .u32 ((L.length + 1 : Nat) : Int), .int .u8 (xk : Int), .string ⟨xs.toArray⟩, .string ⟨xt.toArray⟩, .string ⟨xu.toArray⟩, .int .u8 (xz : Int)]) rfl trivial rfl rfl (fun ρ w E H => ex_buildSlice E rfl rfl Try.underlying30 sz_palaver_api_Cmd zr_palaver_api_Cmd rfl rfl (by kernel_rfl)) (fun g5 w hg5 H => H.ks [] [2, 3, 4] rfl ⟨(fun g hg => by rw [List.mem_singleton.1 hg]; exact .inr hg5), (fun g hg => .inr (hv27.fresh g hg)), (fun g hg => by rw [List.mem_singleton.1 hg]; exact .inr hg4), (fun g hg => by rw [List.mem_singleton.1 hg]; exact .inr hg3), (fun g hg => by rw [List.mem_singleton.1 hg]; exact .inr hg2), (fun g hg => by rw [List.mem_singleton.1 hg]; exact .inr hg1), trivial⟩) fun g5 hg5 => ?_
      refine SxA.ready [5] (by kernel_rfl) (by simp) ⟨?_, trivial⟩
      refine SxO.append (i := 1) (news := [.int .u8 (id : Int), .int .u32 ((L.length + 1 : Nat) : Int), .int .u8 (xk : Int), .string ⟨xs.toArray⟩, .string ⟨xt.toArray⟩, .string ⟨xu.toArray⟩, .int .u8 (xz : Int)]) rfl trivial rfl rfl rfl Try.underlying30 nf_palaver_api_Cmd rfl rfl rfl rfl hv27 rfl (fun w H => reads_cell H (i := 0) rfl rfl) (one_list rfl) (by unfold maxLen; omega) (by omega) (Nat.le_refl _) (fun A30 k30 w hv30 H => H.ks [] [2, 3, 4] rfl ⟨(fun g hg => by rw [List.mem_singleton.1 hg]; exact .inr hg5), (fun g hg => .inr (hv30.fresh g hg)), (fun g hg => by rw [List.mem_singleton.1 hg]; exact .inr hg4), (fun g hg => by rw [List.mem_singleton.1 hg]; exact .inr hg3), (fun g hg => by rw [List.mem_singleton.1 hg]; exact .inr hg2), (fun g hg => by rw [List.mem_singleton.1 hg]; exact .inr hg1), trivial⟩) fun A30 k30 hv30 => ?_
      refine SxA.take (i := 6) (v := .pointer (some ⟨g1, 2, none⟩)) rfl (by kernel_rfl) (by kernel_rfl) (by kernel_rfl) rfl rfl (fun _ _ _ h => h) trivial (fun ρ w E H => ex_field E rfl fa_palaver_palaverref27_Client_2 rfl rfl) ?_
      refine SxA.ready [7] (by kernel_rfl) (by simp) ⟨?_, trivial⟩
      refine SxO.storeX (j := 5) [.int .u8 (id : Int), .int .i64 (n : Int), .slice A30 (0 + L.length + 1) k30, .bool false, .int .u8 (dst : Int)] rfl trivial rfl rfl rfl rfl rfl sz_api_Cmd rfl rfl rfl rfl (fun w H => H.ks [] [2, 3, 4] rfl ⟨(fun g hg => by rw [List.mem_singleton.1 hg]; exact .inr hg5), (fun g hg => .inr (hv30.fresh g hg)), (fun g hg => by rw [List.mem_singleton.1 hg]; exact .inr hg4), (fun g hg => by rw [List.mem_singleton.1 hg]; exact .inr hg3), (fun g hg => by rw [List.mem_singleton.1 hg]; exact .inr hg2), (fun g hg => by rw [List.mem_singleton.1 hg]; exact .inr hg1), trivial⟩) ?_
      refine SxA.done (by kernel_rfl) ?_
      refine SxN.then_ ?_
      refine SxC.seq ?_
      refine SxC.region ?_
      refine SxL.val (v := .pointer (some ⟨g1, 3, none⟩)) trivial rfl rfl (fun ρ w E H => ex_field E rfl fa_palaver_palaverref27_Client_3 rfl rfl) ?_
      refine SxL.storeX (i := 5) [.int .u8 (id : Int), .int .i64 (n : Int), .slice A30 (0 + L.length + 1) k30, .bool true, .int .u8 (dst : Int)] trivial rfl rfl rfl rfl rfl sz_bool rfl rfl rfl rfl ?_
      refine SxL.nil ?_
      refine SxN.then_ ?_
      refine SxC.seq ?_
      refine SxC.hp (fun W H => H.re (i := 1) rfl (rowX [] w.heap.size 36 7 (.slice A30 (0 + L.length + 1) k30) ((L ++ [(⟨id, L.length + 1, xk, xs, xt, xu, xz⟩ : Cm)]).length) ((L ++ [(⟨id, L.length + 1, xk, xs, xt, xu, xz⟩ : Cm)]).flatMap cmL)) (rowX_loc _ _ _ _ _ _ _) rfl (fun h => own_as h (by simp) (by simp [cmL, cmC]))) ?_
      refine SxC.drawnK [] [0, 1, 4, 5] (by kernel_rfl) rfl ⟨(fun g hg => by rw [List.mem_singleton.1 hg]; exact .inr hg5), (fun g hg => .inr (hv30.fresh g hg)), (fun g hg => by rw [List.mem_singleton.1 hg]; exact .inr hg4), (fun g hg => by rw [List.mem_singleton.1 hg]; exact .inr hg3), (fun g hg => by rw [List.mem_singleton.1 hg]; exact .inr hg2), (fun g hg => by rw [List.mem_singleton.1 hg]; exact .inr hg1), trivial⟩ ?_
      refine SxA.take (i := 0) (v := .agg #[.int .u8 (id : Int), .int .i64 (n : Int), .slice A30 (0 + L.length + 1) k30, .bool true, .int .u8 (dst : Int)]) rfl (by kernel_rfl) (by kernel_rfl) (by kernel_rfl) rfl rfl (fun _ _ _ h => h) trivial (fun ρ w E H => ex_load (part := [.int .u8 (id : Int), .int .i64 (n : Int), .slice A30 (0 + L.length + 1) k30, .bool true, .int .u8 (dst : Int)]) E (H.get (i := 3) rfl) rfl rfl Try.underlying32 rfl sz_palaver_palaverref27_Client rfl rfl) ?_
      refine SxA.take (i := 1) (v := .agg #[.int .u8 (id : Int), .int .i64 (n : Int), .slice A30 (0 + L.length + 1) k30, .bool true, .int .u8 (dst : Int)]) rfl (by kernel_rfl) (by kernel_rfl) (by kernel_rfl) rfl rfl (fun _ _ _ h => h) trivial (fun ρ w E H => ex_load (part := [.int .u8 (id : Int), .int .i64 (n : Int), .slice A30 (0 + L.length + 1) k30, .bool true, .int .u8 (dst : Int)]) E (H.get (i := 3) rfl) rfl rfl Try.underlying32 rfl sz_palaver_palaverref27_Client rfl rfl) ?_
      refine SxA.ready [2] (by kernel_rfl) (by simp) ⟨?_, trivial⟩
      refine SxO.callB (v := .agg #[.int .u8 ((16 + id : Nat) : Int), .int .u8 (dst : Int), .int .u8 1, .int .u64 0, .int .u8 0, .int .u64 0, .int .u64 0, .int .u8 0, .string ⟨[].toArray⟩, .slice none 0 0, .slice none 0 0, .int .u8 (id : Int), .int .u32 ((L.length + 1 : Nat) : Int), .int .u8 (xk : Int), .string ⟨xs.toArray⟩, .string ⟨xt.toArray⟩, .string ⟨xu.toArray⟩, .int .u8 (xz : Int), .int .u8 0, .string ⟨[].toArray⟩]) rfl trivial rfl rfl (fun ρ w E => ex_call E en_palaver_palaverref27_Client_asks rfl rfl) (fun w H => (rasks_any ⟨id, n, L ++ [(⟨id, L.length + 1, xk, xs, xt, xu, xz⟩ : Cm)], true, dst⟩ h4 (0 + L.length + 1) (by simp) (by omega) A30 k30 w (ownC_read (H.get (i := 1) rfl))).mono fun _ _ h => ⟨by rw [h.1, ask_snoc]; rfl, h.2⟩) (fun w H => H.ks [] [0, 1, 4, 5] rfl ⟨(fun g hg => by rw [List.mem_singleton.1 hg]; exact .inr hg5), (fun g hg => .inr (hv30.fresh g hg)), (fun g hg => by rw [List.mem_singleton.1 hg]; exact .inr hg4), (fun g hg => by rw [List.mem_singleton.1 hg]; exact .inr hg3), (fun g hg => by rw [List.mem_singleton.1 hg]; exact .inr hg2), (fun g hg => by rw [List.mem_singleton.1 hg]; exact .inr hg1), trivial⟩) ?_
      refine SxA.ready [3] (by kernel_rfl) (by simp) ⟨?_, trivial⟩
      refine SxO.storeX (j := 3) [.int .u8 (id : Int), .int .i64 (n : Int), .slice A30 (0 + L.length + 1) k30, .bool true, .int .u8 (dst : Int)] rfl trivial rfl rfl rfl rfl rfl sz_palaver_palaverref27_Client rfl rfl rfl (putL_all _ _ rfl) (fun w H => H.ks [] [0, 1, 4, 5] rfl ⟨(fun g hg => by rw [List.mem_singleton.1 hg]; exact .inr hg5), (fun g hg => .inr (hv30.fresh g hg)), (fun g hg => by rw [List.mem_singleton.1 hg]; exact .inr hg4), (fun g hg => by rw [List.mem_singleton.1 hg]; exact .inr hg3), (fun g hg => by rw [List.mem_singleton.1 hg]; exact .inr hg2), (fun g hg => by rw [List.mem_singleton.1 hg]; exact .inr hg1), trivial⟩) ?_
      refine SxA.ready [4] (by kernel_rfl) (by simp) ⟨?_, trivial⟩
      refine SxO.storeX (j := 2) [.int .u8 ((16 + id : Nat) : Int), .int .u8 (dst : Int), .int .u8 1, .int .u64 0, .int .u8 0, .int .u64 0, .int .u64 0, .int .u8 0, .string ⟨[].toArray⟩, .slice none 0 0, .slice none 0 0, .int .u8 (id : Int), .int .u32 ((L.length + 1 : Nat) : Int), .int .u8 (xk : Int), .string ⟨xs.toArray⟩, .string ⟨xt.toArray⟩, .string ⟨xu.toArray⟩, .int .u8 (xz : Int), .int .u8 0, .string ⟨[].toArray⟩] rfl trivial rfl rfl rfl rfl rfl sz_palaver_api_Letter rfl rfl rfl (putL_all _ _ rfl) (fun w H => H.ks [] [0, 1, 4, 5] rfl ⟨(fun g hg => by rw [List.mem_singleton.1 hg]; exact .inr hg5), (fun g hg => .inr (hv30.fresh g hg)), (fun g hg => by rw [List.mem_singleton.1 hg]; exact .inr hg4), (fun g hg => by rw [List.mem_singleton.1 hg]; exact .inr hg3), (fun g hg => by rw [List.mem_singleton.1 hg]; exact .inr hg2), (fun g hg => by rw [List.mem_singleton.1 hg]; exact .inr hg1), trivial⟩) ?_
      refine SxA.take (i := 5) (v := .int .i64 0) rfl (by kernel_rfl) (by kernel_rfl) (by kernel_rfl) rfl rfl (fun _ _ _ h => h) trivial (fun ρ w E H => ex_assign E rfl rfl) ?_
      refine SxA.done (by kernel_rfl) ?_
      refine SxN.then_ ?_
      refine SxC.ret ?_
      refine SxX.done (.tuple #[.agg #[.int .u8 (id : Int), .int .i64 (n : Int), .slice A30 (0 + L.length + 1) k30, .bool true, .int .u8 (dst : Int)], .agg #[.int .u8 ((16 + id : Nat) : Int), .int .u8 (dst : Int), .int .u8 1, .int .u64 0, .int .u8 0, .int .u64 0, .int .u64 0, .int .u8 0, .string ⟨[].toArray⟩, .slice none 0 0, .slice none 0 0, .int .u8 (id : Int), .int .u32 ((L.length + 1 : Nat) : Int), .int .u8 (xk : Int), .string ⟨xs.toArray⟩, .string ⟨xt.toArray⟩, .string ⟨xu.toArray⟩, .int .u8 (xz : Int), .int .u8 0, .string ⟨[].toArray⟩], .int .i64 0]) (fun a w K H => resM K [.agg #[.int .u8 (id : Int), .int .i64 (n : Int), .slice A30 (0 + L.length + 1) k30, .bool true, .int .u8 (dst : Int)], .agg #[.int .u8 ((16 + id : Nat) : Int), .int .u8 (dst : Int), .int .u8 1, .int .u64 0, .int .u8 0, .int .u64 0, .int .u64 0, .int .u8 0, .string ⟨[].toArray⟩, .slice none 0 0, .slice none 0 0, .int .u8 (id : Int), .int .u32 ((L.length + 1 : Nat) : Int), .int .u8 (xk : Int), .string ⟨xs.toArray⟩, .string ⟨xt.toArray⟩, .string ⟨xu.toArray⟩, .int .u8 (xz : Int), .int .u8 0, .string ⟨[].toArray⟩], .int .i64 0] rfl rfl ⟨⟨_, rfl, blk_loadVar (H.get (i := 3) rfl) Try.underlying32 rfl sz_palaver_palaverref27_Client⟩, ⟨_, rfl, blk_loadVar (H.get (i := 2) rfl) Try.underlying47 rfl sz_palaver_api_Letter⟩, rfl, trivial⟩) (fun w H => ?_)
      exact ⟨_, rfl, H.get (i := 1) rfl, H.toBelow ⟨(fun g hg => by rw [List.mem_singleton.1 hg]; exact hg5), hv30.fresh, (fun g hg => by rw [List.mem_singleton.1 hg]; exact hg4), (fun g hg => by rw [List.mem_singleton.1 hg]; exact hg3), (fun g hg => by rw [List.mem_singleton.1 hg]; exact hg2), (fun g hg => by rw [List.mem_singleton.1 hg]; exact hg1), trivial⟩⟩
    · refine SxO.newS (cs := [.int .u8 (id : Int), .int .u32 ((L.length + 1 : Nat) : Int), .int .u8 (xk : Int), .string ⟨xs.toArray⟩, .string ⟨xt.toArray⟩, .string ⟨xu.toArray⟩, .int .u8 (xz : Int)]) rfl trivial rfl rfl (fun ρ w E H => ex_buildSlice E rfl rfl Try.underlying30 sz_palaver_api_Cmd zr_palaver_api_Cmd rfl rfl (by kernel_rfl)) (fun g6 w hg6 H => H.ks [] [2, 3, 4] rfl ⟨(fun g hg => by rw [List.mem_singleton.1 hg]; exact .inr hg6), (fun g hg => .inr (hnone.fresh g hg)), (fun g hg => by rw [List.mem_singleton.1 hg]; exact .inr hg4), (fun g hg => by rw [List.mem_singleton.1 hg]; exact .inr hg3), (fun g hg => by rw [List.mem_singleton.1 hg]; exact .inr hg2), (fun g hg => by rw [List.mem_singleton.1 hg]; exact .inr hg1), trivial⟩) fun g6 hg6 => ?_
      refine SxA.ready [2] (by kernel_rfl) (by simp) ⟨?_, trivial⟩
      refine SxO.append (i := 1) (news := L.flatMap cmL) rfl trivial rfl rfl rfl Try.underlying30 nf_palaver_api_Cmd rfl rfl rfl rfl hnone rfl (fun W H => ⟨_, rows_reads cmL_len (by decide) (hr.below (H.toBelow ⟨(fun g hg => by rw [List.mem_singleton.1 hg]; exact hg6), hnone.fresh, (fun g hg => by rw [List.mem_singleton.1 hg]; exact hg4), (fun g hg => by rw [List.mem_singleton.1 hg]; exact hg3), (fun g hg => by rw [List.mem_singleton.1 hg]; exact hg2), (fun g hg => by rw [List.mem_singleton.1 hg]; exact hg1), trivial⟩))⟩) (flatC_one _) (by unfold maxLen; omega) (by omega) (Nat.le_refl _) (fun A27 k27 w hv27 H => H.ks [] [2, 3, 4] rfl ⟨(fun g hg => by rw [List.mem_singleton.1 hg]; exact .inr hg6), (fun g hg => .inr (hv27.fresh g hg)), (fun g hg => by rw [List.mem_singleton.1 hg]; exact .inr hg4), (fun g hg => by rw [List.mem_singleton.1 hg]; exact .inr hg3), (fun g hg => by rw [List.mem_singleton.1 hg]; exact .inr hg2), (fun g hg => by rw [List.mem_singleton.1 hg]; exact .inr hg1), trivial⟩) fun A27 k27 hv27 => ?_
      refine SxA.ready [5] (by kernel_rfl) (by simp) ⟨?_, trivial⟩
      refine SxO.append (i := 1) (news := [.int .u8 (id : Int), .int .u32 ((L.length + 1 : Nat) : Int), .int .u8 (xk : Int), .string ⟨xs.toArray⟩, .string ⟨xt.toArray⟩, .string ⟨xu.toArray⟩, .int .u8 (xz : Int)]) rfl trivial rfl rfl rfl Try.underlying30 nf_palaver_api_Cmd rfl rfl rfl rfl hv27 rfl (fun w H => reads_cell H (i := 0) rfl rfl) (one_list rfl) (by unfold maxLen; omega) (by omega) (Nat.le_refl _) (fun A30 k30 w hv30 H => H.ks [] [2, 3, 4] rfl ⟨(fun g hg => by rw [List.mem_singleton.1 hg]; exact .inr hg6), (fun g hg => .inr (hv30.fresh g hg)), (fun g hg => by rw [List.mem_singleton.1 hg]; exact .inr hg4), (fun g hg => by rw [List.mem_singleton.1 hg]; exact .inr hg3), (fun g hg => by rw [List.mem_singleton.1 hg]; exact .inr hg2), (fun g hg => by rw [List.mem_singleton.1 hg]; exact .inr hg1), trivial⟩) fun A30 k30 hv30 => ?_
      refine SxA.take (i := 6) (v := .pointer (some ⟨g1, 2, none⟩)) rfl (by kernel_rfl) (by kernel_rfl) (by kernel_rfl) rfl rfl (fun _ _ _ h => h) trivial (fun ρ w E H => ex_field E rfl fa_palaver_palaverref27_Client_2 rfl rfl) ?_
      refine SxA.ready [7] (by kernel_rfl) (by simp) ⟨?_, trivial⟩
      refine SxO.storeX (j := 5) [.int .u8 (id : Int), .int .i64 (n : Int), .slice A30 (0 + L.length + 1) k30, .bool false, .int .u8 (dst : Int)] rfl trivial rfl rfl rfl rfl rfl sz_api_Cmd rfl rfl rfl rfl (fun w H => H.ks [] [2, 3, 4] rfl ⟨(fun g hg => by rw [List.mem_singleton.1 hg]; exact .inr hg6), (fun g hg => .inr (hv30.fresh g hg)), (fun g hg => by rw [List.mem_singleton.1 hg]; exact .inr hg4), (fun g hg => by rw [List.mem_singleton.1 hg]; exact .inr hg3), (fun g hg => by rw [List.mem_singleton.1 hg]; exact .inr hg2), (fun g hg => by rw [List.mem_singleton.1 hg]; exact .inr hg1), trivial⟩) ?_
      refine SxA.done (by kernel_rfl) ?_
      refine SxN.then_ ?_
      refine SxC.seq ?_
      refine SxC.region ?_
      refine SxL.val (v := .pointer (some ⟨g1, 3, none⟩)) trivial rfl rfl (fun ρ w E H => ex_field E rfl fa_palaver_palaverref27_Client_3 rfl rfl) ?_
      refine SxL.storeX (i := 5) [.int .u8 (id : Int), .int .i64 (n : Int), .slice A30 (0 + L.length + 1) k30, .bool true, .int .u8 (dst : Int)] trivial rfl rfl rfl rfl rfl sz_bool rfl rfl rfl rfl ?_
      refine SxL.nil ?_
      refine SxN.then_ ?_
      refine SxC.seq ?_
      refine SxC.hp (fun W H => H.re (i := 1) rfl (rowX [] w.heap.size 36 7 (.slice A30 (0 + L.length + 1) k30) ((L ++ [(⟨id, L.length + 1, xk, xs, xt, xu, xz⟩ : Cm)]).length) ((L ++ [(⟨id, L.length + 1, xk, xs, xt, xu, xz⟩ : Cm)]).flatMap cmL)) (rowX_loc _ _ _ _ _ _ _) rfl (fun h => own_as h (by simp) (by simp [cmL, cmC]))) ?_
      refine SxC.drawnK [] [0, 1, 4, 5] (by kernel_rfl) rfl ⟨(fun g hg => by rw [List.mem_singleton.1 hg]; exact .inr hg6), (fun g hg => .inr (hv30.fresh g hg)), (fun g hg => by rw [List.mem_singleton.1 hg]; exact .inr hg4), (fun g hg => by rw [List.mem_singleton.1 hg]; exact .inr hg3), (fun g hg => by rw [List.mem_singleton.1 hg]; exact .inr hg2), (fun g hg => by rw [List.mem_singleton.1 hg]; exact .inr hg1), trivial⟩ ?_
      refine SxA.take (i := 0) (v := .agg #[.int .u8 (id : Int), .int .i64 (n : Int), .slice A30 (0 + L.length + 1) k30, .bool true, .int .u8 (dst : Int)]) rfl (by kernel_rfl) (by kernel_rfl) (by kernel_rfl) rfl rfl (fun _ _ _ h => h) trivial (fun ρ w E H => ex_load (part := [.int .u8 (id : Int), .int .i64 (n : Int), .slice A30 (0 + L.length + 1) k30, .bool true, .int .u8 (dst : Int)]) E (H.get (i := 3) rfl) rfl rfl Try.underlying32 rfl sz_palaver_palaverref27_Client rfl rfl) ?_
      refine SxA.take (i := 1) (v := .agg #[.int .u8 (id : Int), .int .i64 (n : Int), .slice A30 (0 + L.length + 1) k30, .bool true, .int .u8 (dst : Int)]) rfl (by kernel_rfl) (by kernel_rfl) (by kernel_rfl) rfl rfl (fun _ _ _ h => h) trivial (fun ρ w E H => ex_load (part := [.int .u8 (id : Int), .int .i64 (n : Int), .slice A30 (0 + L.length + 1) k30, .bool true, .int .u8 (dst : Int)]) E (H.get (i := 3) rfl) rfl rfl Try.underlying32 rfl sz_palaver_palaverref27_Client rfl rfl) ?_
      refine SxA.ready [2] (by kernel_rfl) (by simp) ⟨?_, trivial⟩
      refine SxO.callB (v := .agg #[.int .u8 ((16 + id : Nat) : Int), .int .u8 (dst : Int), .int .u8 1, .int .u64 0, .int .u8 0, .int .u64 0, .int .u64 0, .int .u8 0, .string ⟨[].toArray⟩, .slice none 0 0, .slice none 0 0, .int .u8 (id : Int), .int .u32 ((L.length + 1 : Nat) : Int), .int .u8 (xk : Int), .string ⟨xs.toArray⟩, .string ⟨xt.toArray⟩, .string ⟨xu.toArray⟩, .int .u8 (xz : Int), .int .u8 0, .string ⟨[].toArray⟩]) rfl trivial rfl rfl (fun ρ w E => ex_call E en_palaver_palaverref27_Client_asks rfl rfl) (fun w H => (rasks_any ⟨id, n, L ++ [(⟨id, L.length + 1, xk, xs, xt, xu, xz⟩ : Cm)], true, dst⟩ h4 (0 + L.length + 1) (by simp) (by omega) A30 k30 w (ownC_read (H.get (i := 1) rfl))).mono fun _ _ h => ⟨by rw [h.1, ask_snoc]; rfl, h.2⟩) (fun w H => H.ks [] [0, 1, 4, 5] rfl ⟨(fun g hg => by rw [List.mem_singleton.1 hg]; exact .inr hg6), (fun g hg => .inr (hv30.fresh g hg)), (fun g hg => by rw [List.mem_singleton.1 hg]; exact .inr hg4), (fun g hg => by rw [List.mem_singleton.1 hg]; exact .inr hg3), (fun g hg => by rw [List.mem_singleton.1 hg]; exact .inr hg2), (fun g hg => by rw [List.mem_singleton.1 hg]; exact .inr hg1), trivial⟩) ?_
      refine SxA.ready [3] (by kernel_rfl) (by simp) ⟨?_, trivial⟩
      refine SxO.storeX (j := 3) [.int .u8 (id : Int), .int .i64 (n : Int), .slice A30 (0 + L.length + 1) k30, .bool true, .int .u8 (dst : Int)] rfl trivial rfl rfl rfl rfl rfl sz_palaver_palaverref27_Client rfl rfl rfl (putL_all _ _ rfl) (fun w H => H.ks [] [0, 1, 4, 5] rfl ⟨(fun g hg => by rw [List.mem_singleton.1 hg]; exact .inr hg6), (fun g hg => .inr (hv30.fresh g hg)), (fun g hg => by rw [List.mem_singleton.1 hg]; exact .inr hg4), (fun g hg => by rw [List.mem_singleton.1 hg]; exact .inr hg3), (fun g hg => by rw [List.mem_singleton.1 hg]; exact .inr hg2), (fun g hg => by rw [List.mem_singleton.1 hg]; exact .inr hg1), trivial⟩) ?_
      refine SxA.ready [4] (by kernel_rfl) (by simp) ⟨?_, trivial⟩
      refine SxO.storeX (j := 2) [.int .u8 ((16 + id : Nat) : Int), .int .u8 (dst : Int), .int .u8 1, .int .u64 0, .int .u8 0, .int .u64 0, .int .u64 0, .int .u8 0, .string ⟨[].toArray⟩, .slice none 0 0, .slice none 0 0, .int .u8 (id : Int), .int .u32 ((L.length + 1 : Nat) : Int), .int .u8 (xk : Int), .string ⟨xs.toArray⟩, .string ⟨xt.toArray⟩, .string ⟨xu.toArray⟩, .int .u8 (xz : Int), .int .u8 0, .string ⟨[].toArray⟩] rfl trivial rfl rfl rfl rfl rfl sz_palaver_api_Letter rfl rfl rfl (putL_all _ _ rfl) (fun w H => H.ks [] [0, 1, 4, 5] rfl ⟨(fun g hg => by rw [List.mem_singleton.1 hg]; exact .inr hg6), (fun g hg => .inr (hv30.fresh g hg)), (fun g hg => by rw [List.mem_singleton.1 hg]; exact .inr hg4), (fun g hg => by rw [List.mem_singleton.1 hg]; exact .inr hg3), (fun g hg => by rw [List.mem_singleton.1 hg]; exact .inr hg2), (fun g hg => by rw [List.mem_singleton.1 hg]; exact .inr hg1), trivial⟩) ?_
      refine SxA.take (i := 5) (v := .int .i64 0) rfl (by kernel_rfl) (by kernel_rfl) (by kernel_rfl) rfl rfl (fun _ _ _ h => h) trivial (fun ρ w E H => ex_assign E rfl rfl) ?_
      refine SxA.done (by kernel_rfl) ?_
      refine SxN.then_ ?_
      refine SxC.ret ?_
      refine SxX.done (.tuple #[.agg #[.int .u8 (id : Int), .int .i64 (n : Int), .slice A30 (0 + L.length + 1) k30, .bool true, .int .u8 (dst : Int)], .agg #[.int .u8 ((16 + id : Nat) : Int), .int .u8 (dst : Int), .int .u8 1, .int .u64 0, .int .u8 0, .int .u64 0, .int .u64 0, .int .u8 0, .string ⟨[].toArray⟩, .slice none 0 0, .slice none 0 0, .int .u8 (id : Int), .int .u32 ((L.length + 1 : Nat) : Int), .int .u8 (xk : Int), .string ⟨xs.toArray⟩, .string ⟨xt.toArray⟩, .string ⟨xu.toArray⟩, .int .u8 (xz : Int), .int .u8 0, .string ⟨[].toArray⟩], .int .i64 0]) (fun a w K H => resM K [.agg #[.int .u8 (id : Int), .int .i64 (n : Int), .slice A30 (0 + L.length + 1) k30, .bool true, .int .u8 (dst : Int)], .agg #[.int .u8 ((16 + id : Nat) : Int), .int .u8 (dst : Int), .int .u8 1, .int .u64 0, .int .u8 0, .int .u64 0, .int .u64 0, .int .u8 0, .string ⟨[].toArray⟩, .slice none 0 0, .slice none 0 0, .int .u8 (id : Int), .int .u32 ((L.length + 1 : Nat) : Int), .int .u8 (xk : Int), .string ⟨xs.toArray⟩, .string ⟨xt.toArray⟩, .string ⟨xu.toArray⟩, .int .u8 (xz : Int), .int .u8 0, .string ⟨[].toArray⟩], .int .i64 0] rfl rfl ⟨⟨_, rfl, blk_loadVar (H.get (i := 3) rfl) Try.underlying32 rfl sz_palaver_palaverref27_Client⟩, ⟨_, rfl, blk_loadVar (H.get (i := 2) rfl) Try.underlying47 rfl sz_palaver_api_Letter⟩, rfl, trivial⟩) (fun w H => ?_)
      exact ⟨_, rfl, H.get (i := 1) rfl, H.toBelow ⟨(fun g hg => by rw [List.mem_singleton.1 hg]; exact hg6), hv30.fresh, (fun g hg => by rw [List.mem_singleton.1 hg]; exact hg4), (fun g hg => by rw [List.mem_singleton.1 hg]; exact hg3), (fun g hg => by rw [List.mem_singleton.1 hg]; exact hg2), (fun g hg => by rw [List.mem_singleton.1 hg]; exact hg1), trivial⟩⟩
  · refine SxO.newS (cs := [.int .u8 (id : Int), .int .u32 ((L.length + 1 : Nat) : Int), .int .u8 (xk : Int), .string ⟨xs.toArray⟩, .string ⟨xt.toArray⟩, .string ⟨xu.toArray⟩, .int .u8 (xz : Int)]) rfl trivial rfl rfl (fun ρ w E H => ex_buildSlice E rfl rfl Try.underlying30 sz_palaver_api_Cmd zr_palaver_api_Cmd rfl rfl (by kernel_rfl)) (fun g7 w hg7 H => H.ks [] [2, 3, 4] rfl ⟨(fun g hg => by rw [List.mem_singleton.1 hg]; exact .inr hg7), (fun g hg => .inr (hnone.fresh g hg)), (fun g hg => by rw [List.mem_singleton.1 hg]; exact .inr hg4), (fun g hg => by rw [List.mem_singleton.1 hg]; exact .inr hg3), (fun g hg => by rw [List.mem_singleton.1 hg]; exact .inr hg2), (fun g hg => by rw [List.mem_singleton.1 hg]; exact .inr hg1), trivial⟩) fun g7 hg7 => ?_
    refine SxA.ready [1] (by kernel_rfl) (by simp) ⟨?_, trivial⟩
    refine SxO.val (v := .slice A L.length k) rfl trivial rfl rfl (fun ρ w E H => ex_load1 E (H.get (i := 5) rfl) rfl rfl Try.underlying30 rfl rfl) ?_
    refine SxA.ready [2] (by kernel_rfl) (by simp) ⟨?_, trivial⟩
    refine SxO.append (i := 1) (news := L.flatMap cmL) rfl trivial rfl rfl rfl Try.underlying30 nf_palaver_api_Cmd rfl rfl rfl rfl hnone rfl (fun W H => ⟨_, rows_reads cmL_len (by decide) (hr.below (H.toBelow ⟨(fun g hg => by rw [List.mem_singleton.1 hg]; exact hg7), hnone.fresh, (fun g hg => by rw [List.mem_singleton.1 hg]; exact hg4), (fun g hg => by rw [List.mem_singleton.1 hg]; exact hg3), (fun g hg => by rw [List.mem_singleton.1 hg]; exact hg2), (fun g hg => by rw [List.mem_singleton.1 hg]; exact hg1), trivial⟩))⟩) (flatC_one _) (by unfold maxLen; omega) (by omega) (Nat.le_refl _) (fun A27 k27 w hv27 H => H.ks [] [2, 3, 4] rfl ⟨(fun g hg => by rw [List.mem_singleton.1 hg]; exact .inr hg7), (fun g hg => .inr (hv27.fresh g hg)), (fun g hg => by rw [List.mem_singleton.1 hg]; exact .inr hg4), (fun g hg => by rw [List.mem_singleton.1 hg]; exact .inr hg3), (fun g hg => by rw [List.mem_singleton.1 hg]; exact .inr hg2), (fun g hg => by rw [List.mem_singleton.1 hg]; exact .inr hg1), trivial⟩) fun A27 k27 hv27 => ?_
    refine SxA.ready [5] (by kernel_rfl) (by simp) ⟨?_, trivial⟩
    refine SxO.append (i := 1) (news := [.int .u8 (id : Int), .int .u32 ((L.length + 1 : Nat) : Int), .int .u8 (xk : Int), .string ⟨xs.toArray⟩, .string ⟨xt.toArray⟩, .string ⟨xu.toArray⟩, .int .u8 (xz : Int)]) rfl trivial rfl rfl rfl Try.underlying30 nf_palaver_api_Cmd rfl rfl rfl rfl hv27 rfl (fun w H => reads_cell H (i := 0) rfl rfl) (one_list rfl) (by unfold maxLen; omega) (by omega) (Nat.le_refl _) (fun A30 k30 w hv30 H => H.ks [] [2, 3, 4] rfl ⟨(fun g hg => by rw [List.mem_singleton.1 hg]; exact .inr hg7), (fun g hg => .inr (hv30.fresh g hg)), (fun g hg => by rw [List.mem_singleton.1 hg]; exact .inr hg4), (fun g hg => by rw [List.mem_singleton.1 hg]; exact .inr hg3), (fun g hg => by rw [List.mem_singleton.1 hg]; exact .inr hg2), (fun g hg => by rw [List.mem_singleton.1 hg]; exact .inr hg1), trivial⟩) fun A30 k30 hv30 => ?_
    refine SxA.take (i := 6) (v := .pointer (some ⟨g1, 2, none⟩)) rfl (by kernel_rfl) (by kernel_rfl) (by kernel_rfl) rfl rfl (fun _ _ _ h => h) trivial (fun ρ w E H => ex_field E rfl fa_palaver_palaverref27_Client_2 rfl rfl) ?_
    refine SxA.ready [7] (by kernel_rfl) (by simp) ⟨?_, trivial⟩
    refine SxO.storeX (j := 5) [.int .u8 (id : Int), .int .i64 (n : Int), .slice A30 (0 + L.length + 1) k30, .bool false, .int .u8 (dst : Int)] rfl trivial rfl rfl rfl rfl rfl sz_api_Cmd rfl rfl rfl rfl (fun w H => H.ks [] [2, 3, 4] rfl ⟨(fun g hg => by rw [List.mem_singleton.1 hg]; exact .inr hg7), (fun g hg => .inr (hv30.fresh g hg)), (fun g hg => by rw [List.mem_singleton.1 hg]; exact .inr hg4), (fun g hg => by rw [List.mem_singleton.1 hg]; exact .inr hg3), (fun g hg => by rw [List.mem_singleton.1 hg]; exact .inr hg2), (fun g hg => by rw [List.mem_singleton.1 hg]; exact .inr hg1), trivial⟩) ?_
    refine SxA.done (by kernel_rfl) ?_
    refine SxN.then_ ?_
    refine SxC.seq ?_
    refine SxC.region ?_
    refine SxL.val (v := .pointer (some ⟨g1, 3, none⟩)) trivial rfl rfl (fun ρ w E H => ex_field E rfl fa_palaver_palaverref27_Client_3 rfl rfl) ?_
    refine SxL.storeX (i := 5) [.int .u8 (id : Int), .int .i64 (n : Int), .slice A30 (0 + L.length + 1) k30, .bool true, .int .u8 (dst : Int)] trivial rfl rfl rfl rfl rfl sz_bool rfl rfl rfl rfl ?_
    refine SxL.nil ?_
    refine SxN.then_ ?_
    refine SxC.seq ?_
    refine SxC.hp (fun W H => H.re (i := 1) rfl (rowX [] w.heap.size 36 7 (.slice A30 (0 + L.length + 1) k30) ((L ++ [(⟨id, L.length + 1, xk, xs, xt, xu, xz⟩ : Cm)]).length) ((L ++ [(⟨id, L.length + 1, xk, xs, xt, xu, xz⟩ : Cm)]).flatMap cmL)) (rowX_loc _ _ _ _ _ _ _) rfl (fun h => own_as h (by simp) (by simp [cmL, cmC]))) ?_
    refine SxC.drawnK [] [0, 1, 4, 5] (by kernel_rfl) rfl ⟨(fun g hg => by rw [List.mem_singleton.1 hg]; exact .inr hg7), (fun g hg => .inr (hv30.fresh g hg)), (fun g hg => by rw [List.mem_singleton.1 hg]; exact .inr hg4), (fun g hg => by rw [List.mem_singleton.1 hg]; exact .inr hg3), (fun g hg => by rw [List.mem_singleton.1 hg]; exact .inr hg2), (fun g hg => by rw [List.mem_singleton.1 hg]; exact .inr hg1), trivial⟩ ?_
    refine SxA.take (i := 0) (v := .agg #[.int .u8 (id : Int), .int .i64 (n : Int), .slice A30 (0 + L.length + 1) k30, .bool true, .int .u8 (dst : Int)]) rfl (by kernel_rfl) (by kernel_rfl) (by kernel_rfl) rfl rfl (fun _ _ _ h => h) trivial (fun ρ w E H => ex_load (part := [.int .u8 (id : Int), .int .i64 (n : Int), .slice A30 (0 + L.length + 1) k30, .bool true, .int .u8 (dst : Int)]) E (H.get (i := 3) rfl) rfl rfl Try.underlying32 rfl sz_palaver_palaverref27_Client rfl rfl) ?_
    refine SxA.take (i := 1) (v := .agg #[.int .u8 (id : Int), .int .i64 (n : Int), .slice A30 (0 + L.length + 1) k30, .bool true, .int .u8 (dst : Int)]) rfl (by kernel_rfl) (by kernel_rfl) (by kernel_rfl) rfl rfl (fun _ _ _ h => h) trivial (fun ρ w E H => ex_load (part := [.int .u8 (id : Int), .int .i64 (n : Int), .slice A30 (0 + L.length + 1) k30, .bool true, .int .u8 (dst : Int)]) E (H.get (i := 3) rfl) rfl rfl Try.underlying32 rfl sz_palaver_palaverref27_Client rfl rfl) ?_
    refine SxA.ready [2] (by kernel_rfl) (by simp) ⟨?_, trivial⟩
    refine SxO.callB (v := .agg #[.int .u8 ((16 + id : Nat) : Int), .int .u8 (dst : Int), .int .u8 1, .int .u64 0, .int .u8 0, .int .u64 0, .int .u64 0, .int .u8 0, .string ⟨[].toArray⟩, .slice none 0 0, .slice none 0 0, .int .u8 (id : Int), .int .u32 ((L.length + 1 : Nat) : Int), .int .u8 (xk : Int), .string ⟨xs.toArray⟩, .string ⟨xt.toArray⟩, .string ⟨xu.toArray⟩, .int .u8 (xz : Int), .int .u8 0, .string ⟨[].toArray⟩]) rfl trivial rfl rfl (fun ρ w E => ex_call E en_palaver_palaverref27_Client_asks rfl rfl) (fun w H => (rasks_any ⟨id, n, L ++ [(⟨id, L.length + 1, xk, xs, xt, xu, xz⟩ : Cm)], true, dst⟩ h4 (0 + L.length + 1) (by simp) (by omega) A30 k30 w (ownC_read (H.get (i := 1) rfl))).mono fun _ _ h => ⟨by rw [h.1, ask_snoc]; rfl, h.2⟩) (fun w H => H.ks [] [0, 1, 4, 5] rfl ⟨(fun g hg => by rw [List.mem_singleton.1 hg]; exact .inr hg7), (fun g hg => .inr (hv30.fresh g hg)), (fun g hg => by rw [List.mem_singleton.1 hg]; exact .inr hg4), (fun g hg => by rw [List.mem_singleton.1 hg]; exact .inr hg3), (fun g hg => by rw [List.mem_singleton.1 hg]; exact .inr hg2), (fun g hg => by rw [List.mem_singleton.1 hg]; exact .inr hg1), trivial⟩) ?_
    refine SxA.ready [3] (by kernel_rfl) (by simp) ⟨?_, trivial⟩
    refine SxO.storeX (j := 3) [.int .u8 (id : Int), .int .i64 (n : Int), .slice A30 (0 + L.length + 1) k30, .bool true, .int .u8 (dst : Int)] rfl trivial rfl rfl rfl rfl rfl sz_palaver_palaverref27_Client rfl rfl rfl (putL_all _ _ rfl) (fun w H => H.ks [] [0, 1, 4, 5] rfl ⟨(fun g hg => by rw [List.mem_singleton.1 hg]; exact .inr hg7), (fun g hg => .inr (hv30.fresh g hg)), (fun g hg => by rw [List.mem_singleton.1 hg]; exact .inr hg4), (fun g hg => by rw [List.mem_singleton.1 hg]; exact .inr hg3), (fun g hg => by rw [List.mem_singleton.1 hg]; exact .inr hg2), (fun g hg => by rw [List.mem_singleton.1 hg]; exact .inr hg1), trivial⟩) ?_
    refine SxA.ready [4] (by kernel_rfl) (by simp) ⟨?_, trivial⟩
    refine SxO.storeX (j := 2) [.int .u8 ((16 + id : Nat) : Int), .int .u8 (dst : Int), .int .u8 1, .int .u64 0, .int .u8 0, .int .u64 0, .int .u64 0, .int .u8 0, .string ⟨[].toArray⟩, .slice none 0 0, .slice none 0 0, .int .u8 (id : Int), .int .u32 ((L.length + 1 : Nat) : Int), .int .u8 (xk : Int), .string ⟨xs.toArray⟩, .string ⟨xt.toArray⟩, .string ⟨xu.toArray⟩, .int .u8 (xz : Int), .int .u8 0, .string ⟨[].toArray⟩] rfl trivial rfl rfl rfl rfl rfl sz_palaver_api_Letter rfl rfl rfl (putL_all _ _ rfl) (fun w H => H.ks [] [0, 1, 4, 5] rfl ⟨(fun g hg => by rw [List.mem_singleton.1 hg]; exact .inr hg7), (fun g hg => .inr (hv30.fresh g hg)), (fun g hg => by rw [List.mem_singleton.1 hg]; exact .inr hg4), (fun g hg => by rw [List.mem_singleton.1 hg]; exact .inr hg3), (fun g hg => by rw [List.mem_singleton.1 hg]; exact .inr hg2), (fun g hg => by rw [List.mem_singleton.1 hg]; exact .inr hg1), trivial⟩) ?_
    refine SxA.take (i := 5) (v := .int .i64 0) rfl (by kernel_rfl) (by kernel_rfl) (by kernel_rfl) rfl rfl (fun _ _ _ h => h) trivial (fun ρ w E H => ex_assign E rfl rfl) ?_
    refine SxA.done (by kernel_rfl) ?_
    refine SxN.then_ ?_
    refine SxC.ret ?_
    refine SxX.done (.tuple #[.agg #[.int .u8 (id : Int), .int .i64 (n : Int), .slice A30 (0 + L.length + 1) k30, .bool true, .int .u8 (dst : Int)], .agg #[.int .u8 ((16 + id : Nat) : Int), .int .u8 (dst : Int), .int .u8 1, .int .u64 0, .int .u8 0, .int .u64 0, .int .u64 0, .int .u8 0, .string ⟨[].toArray⟩, .slice none 0 0, .slice none 0 0, .int .u8 (id : Int), .int .u32 ((L.length + 1 : Nat) : Int), .int .u8 (xk : Int), .string ⟨xs.toArray⟩, .string ⟨xt.toArray⟩, .string ⟨xu.toArray⟩, .int .u8 (xz : Int), .int .u8 0, .string ⟨[].toArray⟩], .int .i64 0]) (fun a w K H => resM K [.agg #[.int .u8 (id : Int), .int .i64 (n : Int), .slice A30 (0 + L.length + 1) k30, .bool true, .int .u8 (dst : Int)], .agg #[.int .u8 ((16 + id : Nat) : Int), .int .u8 (dst : Int), .int .u8 1, .int .u64 0, .int .u8 0, .int .u64 0, .int .u64 0, .int .u8 0, .string ⟨[].toArray⟩, .slice none 0 0, .slice none 0 0, .int .u8 (id : Int), .int .u32 ((L.length + 1 : Nat) : Int), .int .u8 (xk : Int), .string ⟨xs.toArray⟩, .string ⟨xt.toArray⟩, .string ⟨xu.toArray⟩, .int .u8 (xz : Int), .int .u8 0, .string ⟨[].toArray⟩], .int .i64 0] rfl rfl ⟨⟨_, rfl, blk_loadVar (H.get (i := 3) rfl) Try.underlying32 rfl sz_palaver_palaverref27_Client⟩, ⟨_, rfl, blk_loadVar (H.get (i := 2) rfl) Try.underlying47 rfl sz_palaver_api_Letter⟩, rfl, trivial⟩) (fun w H => ?_)
    exact ⟨_, rfl, H.get (i := 1) rfl, H.toBelow ⟨(fun g hg => by rw [List.mem_singleton.1 hg]; exact hg7), hv30.fresh, (fun g hg => by rw [List.mem_singleton.1 hg]; exact hg4), (fun g hg => by rw [List.mem_singleton.1 hg]; exact hg3), (fun g hg => by rw [List.mem_singleton.1 hg]; exact hg2), (fun g hg => by rw [List.mem_singleton.1 hg]; exact hg1), trivial⟩⟩

set_option maxRecDepth 100000 in
set_option maxHeartbeats 4000000 in
theorem rhear_lit (id n dst : Nat) (L : List Cm) (wt : Bool) (ls ld lk lbn lbr lba lsl lno lca lcb lck lcz lco : Nat) (lv lcs lct lcu lte : List UInt8) (lvo lit : Value) (A : Option Addr) (k : Nat) (w : World) (h4 : id < 4) (hm3 : L.length ≤ 900) (hr : Rows w A 7 cmL L) (hls : ls < 256) (hln : lno < 256) : Calls Try.prog 18 #[.agg #[.int .u8 (id : Int), .int .i64 (n : Int), .slice A L.length k, .bool wt, .int .u8 (dst : Int)], .agg #[.int .u8 (ls : Int), .int .u8 (ld : Int), .int .u8 (lk : Int), .int .u64 (lbn : Int), .int .u8 (lbr : Int), .int .u64 (lba : Int), .int .u64 (lsl : Int), .int .u8 (lno : Int), .string ⟨lv.toArray⟩, lvo, lit, .int .u8 (lca : Int), .int .u32 (lcb : Int), .int .u8 (lck : Int), .string ⟨lcs.toArray⟩, .string ⟨lct.toArray⟩, .string ⟨lcu.toArray⟩, .int .u8 (lcz : Int), .int .u8 (lco : Int), .string ⟨lte.toArray⟩]] w fun e w' => e = .returned (.tuple #[.agg (rcC (hearR (⟨id, n, L, wt, dst⟩ : Rc) (⟨ls, ld, lk, lbn, lbr, lba, lsl, lno, lv, lvo, lit, ⟨lca, lcb, lck, lcs, lct, lcu, lcz⟩, lco, lte⟩ : Lt)).1 A k), ltV (hearR (⟨id, n, L, wt, dst⟩ : Rc) (⟨ls, ld, lk, lbn, lbr, lba, lsl, lno, lv, lvo, lit, ⟨lca, lcb, lck, lcs, lct, lcu, lcz⟩, lco, lte⟩ : Lt)).2.1, .bool (hearR (⟨id, n, L, wt, dst⟩ : Rc) (⟨ls, ld, lk, lbn, lbr, lba, lsl, lno, lv, lvo, lit, ⟨lca, lcb, lck, lcs, lct, lcu, lcz⟩, lco, lte⟩ : Lt)).2.2.1, .agg #[.int .u8 ((hearR (⟨id, n, L, wt, dst⟩ : Rc) (⟨ls, ld, lk, lbn, lbr, lba, lsl, lno, lv, lvo, lit, ⟨lca, lcb, lck, lcs, lct, lcu, lcz⟩, lco, lte⟩ : Lt)).2.2.2.1.1 : Int), .string ⟨(hearR (⟨id, n, L, wt, dst⟩ : Rc) (⟨ls, ld, lk, lbn, lbr, lba, lsl, lno, lv, lvo, lit, ⟨lca, lcb, lck, lcs, lct, lcu, lcz⟩, lco, lte⟩ : Lt)).2.2.2.1.2.toArray⟩], .bool (hearR (⟨id, n, L, wt, dst⟩ : Rc) (⟨ls, ld, lk, lbn, lbr, lba, lsl, lno, lv, lvo, lit, ⟨lca, lcb, lck, lcs, lct, lcu, lcz⟩, lco, lte⟩ : Lt)).2.2.2.2]) ∧ Below w.heap.size w w' := by
  obtain ⟨⟨qa, qb, qk, qs, qt, qu, qz⟩, hq⟩ : ∃ c, lastR L = c := ⟨_, rfl⟩
  refine sx_enter (n := 93) [.agg #[.int .u8 (id : Int), .int .i64 (n : Int), .slice A L.length k, .bool wt, .int .u8 (dst : Int)], .agg #[.int .u8 (ls : Int), .int .u8 (ld : Int), .int .u8 (lk : Int), .int .u64 (lbn : Int), .int .u8 (lbr : Int), .int .u64 (lba : Int), .int .u64 (lsl : Int), .int .u8 (lno : Int), .string ⟨lv.toArray⟩, lvo, lit, .int .u8 (lca : Int), .int .u32 (lcb : Int), .int .u8 (lck : Int), .string ⟨lcs.toArray⟩, .string ⟨lct.toArray⟩, .string ⟨lcu.toArray⟩, .int .u8 (lcz : Int), .int .u8 (lco : Int), .string ⟨lte.toArray⟩]] Try.func18 rfl rfl rfl (Hp.start w) ?_
  refine SxC.seq ?_
  refine SxC.region ?_
  refine SxL.new (cs := [.int .u8 (id : Int), .int .i64 (n : Int), .slice A L.length k, .bool wt, .int .u8 (dst : Int)]) trivial rfl rfl (fun ρ w E H => ex_box E rfl rfl rfl) fun g1 hg1 => ?_
  refine SxL.new (cs := [.int .u8 (ls : Int), .int .u8 (ld : Int), .int .u8 (lk : Int), .int .u64 (lbn : Int), .int .u8 (lbr : Int), .int .u64 (lba : Int), .int .u64 (lsl : Int), .int .u8 (lno : Int), .string ⟨lv.toArray⟩, lvo, lit, .int .u8 (lca : Int), .int .u32 (lcb : Int), .int .u8 (lck : Int), .string ⟨lcs.toArray⟩, .string ⟨lct.toArray⟩, .string ⟨lcu.toArray⟩, .int .u8 (lcz : Int), .int .u8 (lco : Int), .string ⟨lte.toArray⟩]) trivial rfl rfl (fun ρ w E H => ex_box E rfl rfl rfl) fun g2 hg2 => ?_
  refine SxL.new (cs := [.int .u8 0, .int .i64 0, .slice none 0 0, .bool false, .int .u8 0]) trivial rfl rfl (fun ρ w E H => ex_alloc rfl zr_palaver_palaverref27_Client rfl) fun g3 hg3 => ?_
  refine SxL.new (cs := [.int .u8 0, .int .u8 0, .int .u8 0, .int .u64 0, .int .u8 0, .int .u64 0, .int .u64 0, .int .u8 0, .string ⟨[].toArray⟩, .slice none 0 0, .slice none 0 0, .int .u8 0, .int .u32 0, .int .u8 0, .string ⟨[].toArray⟩, .string ⟨[].toArray⟩, .string ⟨[].toArray⟩, .int .u8 0, .int .u8 0, .string ⟨[].toArray⟩]) trivial rfl rfl (fun ρ w E H => ex_alloc rfl zr_palaver_api_Letter rfl) fun g4 hg4 => ?_
  refine SxL.val (v := .bool false) trivial rfl rfl (fun ρ w E H => ex_assign E rfl rfl) ?_
  refine SxL.new (cs := [.int .u8 0, .string ⟨[].toArray⟩]) trivial rfl rfl (fun ρ w E H => ex_alloc rfl zr_palaver_api_Reply rfl) fun g5 hg5 => ?_
  refine SxL.val (v := .bool false) trivial rfl rfl (fun ρ w E H => ex_assign E rfl rfl) ?_
  refine SxL.nil ?_
  refine SxN.then_ ?_
  refine SxC.seq ?_
  refine SxC.region ?_
  refine SxL.val (v := .agg #[.int .u8 (id : Int), .int .i64 (n : Int), .slice A L.length k, .bool wt, .int .u8 (dst : Int)]) trivial rfl rfl (fun ρ w E H => ex_load (part := [.int .u8 (id : Int), .int .i64 (n : Int), .slice A L.length k, .bool wt, .int .u8 (dst : Int)]) E (H.get (i := 4) rfl) rfl rfl Try.underlying32 rfl sz_palaver_palaverref27_Client rfl rfl) ?_
  refine SxL.callB (v := .agg #[.int .u8 (qa : Int), .int .u32 (qb : Int), .int .u8 (qk : Int), .string ⟨qs.toArray⟩, .string ⟨qt.toArray⟩, .string ⟨qu.toArray⟩, .int .u8 (qz : Int)]) trivial rfl rfl (fun ρ w E => ex_call E en_palaver_palaverref27_Client_Last rfl rfl) (fun w H => (rlast_any ⟨id, n, L, wt, dst⟩ L.length rfl (by omega) A k w (hr.below (H.toBelow ⟨(fun g hg => by rw [List.mem_singleton.1 hg]; exact hg5), (fun g hg => by rw [List.mem_singleton.1 hg]; exact hg4), (fun g hg => by rw [List.mem_singleton.1 hg]; exact hg3), (fun g hg => by rw [List.mem_singleton.1 hg]; exact hg2), (fun g hg => by rw [List.mem_singleton.1 hg]; exact hg1), trivial⟩))).mono fun _ _ h => ⟨by rw [h.1]; dsimp only; rw [hq]; rfl, h.2⟩) ?_
  refine SxL.new (cs := [.int .u8 0, .int .u32 0, .int .u8 0, .string ⟨[].toArray⟩, .string ⟨[].toArray⟩, .string ⟨[].toArray⟩, .int .u8 0]) trivial rfl rfl (fun ρ w E H => ex_alloc rfl zr_palaver_api_Cmd rfl) fun g6 hg6 => ?_
  refine SxL.storeX (i := 0) [.int .u8 (qa : Int), .int .u32 (qb : Int), .int .u8 (qk : Int), .string ⟨qs.toArray⟩, .string ⟨qt.toArray⟩, .string ⟨qu.toArray⟩, .int .u8 (qz : Int)] trivial rfl rfl rfl rfl rfl sz_palaver_api_Cmd rfl rfl rfl (putL_all _ _ rfl) ?_
  refine SxL.nil ?_
  refine SxN.then_ ?_
  refine SxC.seq ?_
  refine SxC.seq ?_
  refine SxC.cut1 (fun (b48 : Bool) => [(2, .pointer (some ⟨g1, 0, none⟩)), (3, .pointer (some ⟨g2, 0, none⟩)), (4, .pointer (some ⟨g3, 0, none⟩)), (5, .pointer (some ⟨g4, 0, none⟩)), (6, .bool false), (7, .pointer (some ⟨g5, 0, none⟩)), (8, .bool false), (9, .pointer (some ⟨g6, 0, none⟩)), (48, .bool b48)]) (fun _ => [cell g6 36 [.int .u8 (qa : Int), .int .u32 (qb : Int), .int .u8 (qk : Int), .string ⟨qs.toArray⟩, .string ⟨qt.toArray⟩, .string ⟨qu.toArray⟩, .int .u8 (qz : Int)], cell g5 43 [.int .u8 0, .string ⟨[].toArray⟩], cell g4 47 [.int .u8 0, .int .u8 0, .int .u8 0, .int .u64 0, .int .u8 0, .int .u64 0, .int .u64 0, .int .u8 0, .string ⟨[].toArray⟩, .slice none 0 0, .slice none 0 0, .int .u8 0, .int .u32 0, .int .u8 0, .string ⟨[].toArray⟩, .string ⟨[].toArray⟩, .string ⟨[].toArray⟩, .int .u8 0, .int .u8 0, .string ⟨[].toArray⟩], cell g3 32 [.int .u8 0, .int .i64 0, .slice none 0 0, .bool false, .int .u8 0], cell g2 47 [.int .u8 (ls : Int), .int .u8 (ld : Int), .int .u8 (lk : Int), .int .u64 (lbn : Int), .int .u8 (lbr : Int), .int .u64 (lba : Int), .int .u64 (lsl : Int), .int .u8 (lno : Int), .string ⟨lv.toArray⟩, lvo, lit, .int .u8 (lca : Int), .int .u32 (lcb : Int), .int .u8 (lck : Int), .string ⟨lcs.toArray⟩, .string ⟨lct.toArray⟩, .string ⟨lcu.toArray⟩, .int .u8 (lcz : Int), .int .u8 (lco : Int), .string ⟨lte.toArray⟩], cell g1 32 [.int .u8 (id : Int), .int .i64 (n : Int), .slice A L.length k, .bool wt, .int .u8 (dst : Int)]]) (fun b48 => b48 = !forR (⟨id, n, L, wt, dst⟩ : Rc) (⟨ls, ld, lk, lbn, lbr, lba, lsl, lno, lv, lvo, lit, ⟨lca, lcb, lck, lcs, lct, lcu, lcz⟩, lco, lte⟩ : Lt)) ?_ fun b48 hb48 => ?_
  · refine SxC.region ?_
    refine SxL.val (v := .pointer (some ⟨g1, 3, none⟩)) trivial rfl rfl (fun ρ w E H => ex_field E rfl fa_palaver_palaverref27_Client_3 rfl rfl) ?_
    refine SxL.val (v := .bool wt) trivial rfl rfl (fun ρ w E H => ex_load1 E (H.get (i := 5) rfl) rfl rfl Try.underlying4 rfl rfl) ?_
    cases wt
    · refine SxL.val (v := .bool true) trivial rfl rfl (fun ρ w E H => ex_not (t := false) E rfl rfl) ?_
      refine SxL.val (v := .bool true) trivial rfl rfl (fun ρ w E H => ex_move E rfl rfl) ?_
      refine SxL.off ⟨_, _, _, rfl, rfl, rfl, nofun⟩ rfl rfl ?_
      refine SxL.off ⟨_, _, _, rfl, rfl, rfl, nofun⟩ rfl rfl ?_
      refine SxL.off ⟨_, _, _, rfl, rfl, rfl, nofun⟩ rfl rfl ?_
      refine SxL.off ⟨_, _, _, rfl, rfl, rfl, nofun⟩ rfl rfl ?_
      refine SxL.off ⟨_, _, _, rfl, rfl, rfl, nofun⟩ rfl rfl ?_
      refine SxL.off ⟨_, _, _, rfl, rfl, rfl, nofun⟩ rfl rfl ?_
      refine SxL.val (v := .bool true) trivial rfl rfl (fun ρ w E H => ex_pick E rfl (t := true) rfl rfl) ?_
      refine SxL.val (v := .bool true) trivial rfl rfl (fun ρ w E H => ex_move E rfl rfl) ?_
      refine SxL.off ⟨_, _, _, rfl, rfl, rfl, nofun⟩ rfl rfl ?_
      refine SxL.off ⟨_, _, _, rfl, rfl, rfl, nofun⟩ rfl rfl ?_
      refine SxL.off ⟨_, _, _, rfl, rfl, rfl, nofun⟩ rfl rfl ?_
      refine SxL.off ⟨_, _, _, rfl, rfl, rfl, nofun⟩ rfl rfl ?_
      refine SxL.off ⟨_, _, _, rfl, rfl, rfl, nofun⟩ rfl rfl ?_
      refine SxL.off ⟨_, _, _, rfl, rfl, rfl, nofun⟩ rfl rfl ?_
      refine SxL.val (v := .bool true) trivial rfl rfl (fun ρ w E H => ex_pick E rfl (t := true) rfl rfl) ?_
      refine SxL.val (v := .bool true) trivial rfl rfl (fun ρ w E H => ex_move E rfl rfl) ?_
      refine SxL.off ⟨_, _, _, rfl, rfl, rfl, nofun⟩ rfl rfl ?_
      refine SxL.off ⟨_, _, _, rfl, rfl, rfl, nofun⟩ rfl rfl ?_
      refine SxL.off ⟨_, _, _, rfl, rfl, rfl, nofun⟩ rfl rfl ?_
      refine SxL.off ⟨_, _, _, rfl, rfl, rfl, nofun⟩ rfl rfl ?_
      refine SxL.off ⟨_, _, _, rfl, rfl, rfl, nofun⟩ rfl rfl ?_
      refine SxL.off ⟨_, _, _, rfl, rfl, rfl, nofun⟩ rfl rfl ?_
      refine SxL.off ⟨_, _, _, rfl, rfl, rfl, nofun⟩ rfl rfl ?_
      refine SxL.val (v := .bool true) trivial rfl rfl (fun ρ w E H => ex_pick E rfl (t := true) rfl rfl) ?_
      refine SxL.val (v := .bool true) trivial rfl rfl (fun ρ w E H => ex_move E rfl rfl) ?_
      refine SxL.off ⟨_, _, _, rfl, rfl, rfl, nofun⟩ rfl rfl ?_
      refine SxL.off ⟨_, _, _, rfl, rfl, rfl, nofun⟩ rfl rfl ?_
      refine SxL.off ⟨_, _, _, rfl, rfl, rfl, nofun⟩ rfl rfl ?_
      refine SxL.off ⟨_, _, _, rfl, rfl, rfl, nofun⟩ rfl rfl ?_
      refine SxL.off ⟨_, _, _, rfl, rfl, rfl, nofun⟩ rfl rfl ?_
      refine SxL.off ⟨_, _, _, rfl, rfl, rfl, nofun⟩ rfl rfl ?_
      refine SxL.off ⟨_, _, _, rfl, rfl, rfl, nofun⟩ rfl rfl ?_
      refine SxL.val (v := .bool true) trivial rfl rfl (fun ρ w E H => ex_pick E rfl (t := true) rfl rfl) ?_
      refine SxL.nil ?_
      have hq3 : true = !forR (⟨id, n, L, false, dst⟩ : Rc) (⟨ls, ld, lk, lbn, lbr, lba, lsl, lno, lv, lvo, lit, ⟨lca, lcb, lck, lcs, lct, lcu, lcz⟩, lco, lte⟩ : Lt) := by
        unfold forR; dsimp only; rw [hq]; dsimp only; clear hr
        first | (simp; done) | (simp; omega) | (simp; intros; omega)
      refine SxN.meet true hq3 ⟨rfl, rfl, rfl, rfl, rfl, rfl, rfl, rfl, rfl, trivial⟩ [0, 1, 2, 3, 4, 5] rfl (by decide) ⟨.inl rfl, .inl rfl, .inl rfl, .inl rfl, .inl rfl, .inl rfl, trivial⟩
    · refine SxL.val (v := .bool false) trivial rfl rfl (fun ρ w E H => ex_not (t := true) E rfl rfl) ?_
      refine SxL.val (v := .bool false) trivial rfl rfl (fun ρ w E H => ex_move E rfl rfl) ?_
      refine SxL.val (v := .pointer (some ⟨g2, 1, none⟩)) ⟨_, _, rfl, rfl, rfl⟩ rfl rfl (fun ρ w E H => ex_field E rfl fa_palaver_api_Letter_1 rfl rfl) ?_
      refine SxL.val (v := .int .u8 (ld : Int)) ⟨_, _, rfl, rfl, rfl⟩ rfl rfl (fun ρ w E H => ex_load1 E (H.get (i := 4) rfl) rfl rfl Try.underlying5 rfl rfl) ?_
      refine SxL.val (v := .pointer (some ⟨g1, 0, none⟩)) ⟨_, _, rfl, rfl, rfl⟩ rfl rfl (fun ρ w E H => ex_field E rfl fa_palaver_palaverref27_Client_0 rfl rfl) ?_
      refine SxL.val (v := .int .u8 (id : Int)) ⟨_, _, rfl, rfl, rfl⟩ rfl rfl (fun ρ w E H => ex_load1 E (H.get (i := 5) rfl) rfl rfl Try.underlying5 rfl rfl) ?_
      refine SxL.val (v := .int .u8 ((16 + id : Nat) : Int)) ⟨_, _, rfl, rfl, rfl⟩ rfl rfl (fun ρ w E H => ex_add E rfl rfl rfl (by rw [IntKind.wrap_u8]; omega)) ?_
      refine SxL.valB ⟨_, _, rfl, rfl, rfl⟩ rfl rfl (fun ρ w E H => ex_cmp E rfl rfl rfl rfl rfl) fun c21 hc21 => ?_
      refine SxL.val (v := .bool c21) trivial rfl rfl (fun ρ w E H => ex_pick E rfl (t := false) rfl rfl) ?_
      refine SxL.val (v := .bool c21) trivial rfl rfl (fun ρ w E H => ex_move E rfl rfl) ?_
      cases c21
      · refine SxL.val (v := .pointer (some ⟨g2, 0, none⟩)) ⟨_, _, rfl, rfl, rfl⟩ rfl rfl (fun ρ w E H => ex_field E rfl fa_palaver_api_Letter_0 rfl rfl) ?_
        refine SxL.val (v := .int .u8 (ls : Int)) ⟨_, _, rfl, rfl, rfl⟩ rfl rfl (fun ρ w E H => ex_load1 E (H.get (i := 4) rfl) rfl rfl Try.underlying5 rfl rfl) ?_
        refine SxL.val (v := .int .i64 (ls : Int)) ⟨_, _, rfl, rfl, rfl⟩ rfl rfl (fun ρ w E H => ex_convInt E rfl Try.underlying5 Try.underlying3 rfl (by rw [IntKind.wrap_i64]; omega)) ?_
        refine SxL.val (v := .pointer (some ⟨g1, 1, none⟩)) ⟨_, _, rfl, rfl, rfl⟩ rfl rfl (fun ρ w E H => ex_field E rfl fa_palaver_palaverref27_Client_1 rfl rfl) ?_
        refine SxL.val (v := .int .i64 (n : Int)) ⟨_, _, rfl, rfl, rfl⟩ rfl rfl (fun ρ w E H => ex_load1 E (H.get (i := 5) rfl) rfl rfl Try.underlying3 rfl rfl) ?_
        refine SxL.valB ⟨_, _, rfl, rfl, rfl⟩ rfl rfl (fun ρ w E H => ex_cmp E rfl rfl rfl rfl rfl) fun c29 hc29 => ?_
        refine SxL.val (v := .bool c29) trivial rfl rfl (fun ρ w E H => ex_pick E rfl (t := false) rfl rfl) ?_
        refine SxL.val (v := .bool c29) trivial rfl rfl (fun ρ w E H => ex_move E rfl rfl) ?_
        cases c29
        · refine SxL.val (v := .pointer (some ⟨g2, 2, none⟩)) ⟨_, _, rfl, rfl, rfl⟩ rfl rfl (fun ρ w E H => ex_field E rfl fa_palaver_api_Letter_2 rfl rfl) ?_
          refine SxL.val (v := .pointer (some ⟨g2, 11, none⟩)) ⟨_, _, rfl, rfl, rfl⟩ rfl rfl (fun ρ w E H => ex_field E rfl fa_palaver_api_Msg_8 rfl rfl) ?_
          refine SxL.val (v := .pointer (some ⟨g2, 11, none⟩)) ⟨_, _, rfl, rfl, rfl⟩ rfl rfl (fun ρ w E H => ex_field E rfl fa_palaver_api_Cmd_0 rfl rfl) ?_
          refine SxL.val (v := .int .u8 (lca : Int)) ⟨_, _, rfl, rfl, rfl⟩ rfl rfl (fun ρ w E H => ex_load1 E (H.get (i := 4) rfl) rfl rfl Try.underlying5 rfl rfl) ?_
          refine SxL.val (v := .pointer (some ⟨g6, 0, none⟩)) ⟨_, _, rfl, rfl, rfl⟩ rfl rfl (fun ρ w E H => ex_field E rfl fa_palaver_api_Cmd_0 rfl rfl) ?_
          refine SxL.val (v := .int .u8 (qa : Int)) ⟨_, _, rfl, rfl, rfl⟩ rfl rfl (fun ρ w E H => ex_load1 E (H.get (i := 0) rfl) rfl rfl Try.underlying5 rfl rfl) ?_
          refine SxL.valB ⟨_, _, rfl, rfl, rfl⟩ rfl rfl (fun ρ w E H => ex_cmp E rfl rfl rfl rfl rfl) fun c38 hc38 => ?_
          refine SxL.val (v := .bool c38) trivial rfl rfl (fun ρ w E H => ex_pick E rfl (t := false) rfl rfl) ?_
          refine SxL.val (v := .bool c38) trivial rfl rfl (fun ρ w E H => ex_move E rfl rfl) ?_
          cases c38
          · refine SxL.val (v := .pointer (some ⟨g2, 2, none⟩)) ⟨_, _, rfl, rfl, rfl⟩ rfl rfl (fun ρ w E H => ex_field E rfl fa_palaver_api_Letter_2 rfl rfl) ?_
            refine SxL.val (v := .pointer (some ⟨g2, 11, none⟩)) ⟨_, _, rfl, rfl, rfl⟩ rfl rfl (fun ρ w E H => ex_field E rfl fa_palaver_api_Msg_8 rfl rfl) ?_
            refine SxL.val (v := .pointer (some ⟨g2, 12, none⟩)) ⟨_, _, rfl, rfl, rfl⟩ rfl rfl (fun ρ w E H => ex_field E rfl fa_palaver_api_Cmd_1 rfl rfl) ?_
            refine SxL.val (v := .int .u32 (lcb : Int)) ⟨_, _, rfl, rfl, rfl⟩ rfl rfl (fun ρ w E H => ex_load1 E (H.get (i := 4) rfl) rfl rfl Try.underlying34 rfl rfl) ?_
            refine SxL.val (v := .pointer (some ⟨g6, 1, none⟩)) ⟨_, _, rfl, rfl, rfl⟩ rfl rfl (fun ρ w E H => ex_field E rfl fa_palaver_api_Cmd_1 rfl rfl) ?_
            refine SxL.val (v := .int .u32 (qb : Int)) ⟨_, _, rfl, rfl, rfl⟩ rfl rfl (fun ρ w E H => ex_load1 E (H.get (i := 0) rfl) rfl rfl Try.underlying34 rfl rfl) ?_
            refine SxL.valB ⟨_, _, rfl, rfl, rfl⟩ rfl rfl (fun ρ w E H => ex_cmp E rfl rfl rfl rfl rfl) fun c47 hc47 => ?_
            refine SxL.val (v := .bool c47) trivial rfl rfl (fun ρ w E H => ex_pick E rfl (t := false) rfl rfl) ?_
            refine SxL.nil ?_
            cases c47
            · have hq3 : false = !forR (⟨id, n, L, true, dst⟩ : Rc) (⟨ls, ld, lk, lbn, lbr, lba, lsl, lno, lv, lvo, lit, ⟨lca, lcb, lck, lcs, lct, lcu, lcz⟩, lco, lte⟩ : Lt) := by
                unfold forR; dsimp only; rw [hq]; dsimp only; clear hr
                simp [cmpB] at hc21 hc29 hc38 hc47
                first | (simp; done) | (simp; omega) | (simp; intros; omega)
              refine SxN.meet false hq3 ⟨rfl, rfl, rfl, rfl, rfl, rfl, rfl, rfl, rfl, trivial⟩ [0, 1, 2, 3, 4, 5] rfl (by decide) ⟨.inl rfl, .inl rfl, .inl rfl, .inl rfl, .inl rfl, .inl rfl, trivial⟩
            · have hq3 : true = !forR (⟨id, n, L, true, dst⟩ : Rc) (⟨ls, ld, lk, lbn, lbr, lba, lsl, lno, lv, lvo, lit, ⟨lca, lcb, lck, lcs, lct, lcu, lcz⟩, lco, lte⟩ : Lt) := by
                unfold forR; dsimp only; rw [hq]; dsimp only; clear hr
                simp [cmpB] at hc21 hc29 hc38 hc47
                first | (simp; done) | (simp; omega) | (simp; intros; omega)
              refine SxN.meet true hq3 ⟨rfl, rfl, rfl, rfl, rfl, rfl, rfl, rfl, rfl, trivial⟩ [0, 1, 2, 3, 4, 5] rfl (by decide) ⟨.inl rfl, .inl rfl, .inl rfl, .inl rfl, .inl rfl, .inl rfl, trivial⟩
          · refine SxL.off ⟨_, _, _, rfl, rfl, rfl, nofun⟩ rfl rfl ?_
            refine SxL.off ⟨_, _, _, rfl, rfl, rfl, nofun⟩ rfl rfl ?_
            refine SxL.off ⟨_, _, _, rfl, rfl, rfl, nofun⟩ rfl rfl ?_
            refine SxL.off ⟨_, _, _, rfl, rfl, rfl, nofun⟩ rfl rfl ?_
            refine SxL.off ⟨_, _, _, rfl, rfl, rfl, nofun⟩ rfl rfl ?_
            refine SxL.off ⟨_, _, _, rfl, rfl, rfl, nofun⟩ rfl rfl ?_
            refine SxL.off ⟨_, _, _, rfl, rfl, rfl, nofun⟩ rfl rfl ?_
            refine SxL.val (v := .bool true) trivial rfl rfl (fun ρ w E H => ex_pick E rfl (t := true) rfl rfl) ?_
            refine SxL.nil ?_
            have hq3 : true = !forR (⟨id, n, L, true, dst⟩ : Rc) (⟨ls, ld, lk, lbn, lbr, lba, lsl, lno, lv, lvo, lit, ⟨lca, lcb, lck, lcs, lct, lcu, lcz⟩, lco, lte⟩ : Lt) := by
              unfold forR; dsimp only; rw [hq]; dsimp only; clear hr
              simp [cmpB] at hc21 hc29 hc38
              first | (simp; done) | (simp; omega) | (simp; intros; omega)
            refine SxN.meet true hq3 ⟨rfl, rfl, rfl, rfl, rfl, rfl, rfl, rfl, rfl, trivial⟩ [0, 1, 2, 3, 4, 5] rfl (by decide) ⟨.inl rfl, .inl rfl, .inl rfl, .inl rfl, .inl rfl, .inl rfl, trivial⟩
        · refine SxL.off ⟨_, _, _, rfl, rfl, rfl, nofun⟩ rfl rfl ?_
          refine SxL.off ⟨_, _, _, rfl, rfl, rfl, nofun⟩ rfl rfl ?_
          refine SxL.off ⟨_, _, _, rfl, rfl, rfl, nofun⟩ rfl rfl ?_
          refine SxL.off ⟨_, _, _, rfl, rfl, rfl, nofun⟩ rfl rfl ?_
          refine SxL.off ⟨_, _, _, rfl, rfl, rfl, nofun⟩ rfl rfl ?_
          refine SxL.off ⟨_, _, _, rfl, rfl, rfl, nofun⟩ rfl rfl ?_
          refine SxL.off ⟨_, _, _, rfl, rfl, rfl, nofun⟩ rfl rfl ?_
          refine SxL.val (v := .bool true) trivial rfl rfl (fun ρ w E H => ex_pick E rfl (t := true) rfl rfl) ?_
          refine SxL.val (v := .bool true) trivial rfl rfl (fun ρ w E H => ex_move E rfl rfl) ?_
          refine SxL.off ⟨_, _, _, rfl, rfl, rfl, nofun⟩ rfl rfl ?_
          refine SxL.off ⟨_, _, _, rfl, rfl, rfl, nofun⟩ rfl rfl ?_
          refine SxL.off ⟨_, _, _, rfl, rfl, rfl, nofun⟩ rfl rfl ?_
          refine SxL.off ⟨_, _, _, rfl, rfl, rfl, nofun⟩ rfl rfl ?_
          refine SxL.off ⟨_, _, _, rfl, rfl, rfl, nofun⟩ rfl rfl ?_
          refine SxL.off ⟨_, _, _, rfl, rfl, rfl, nofun⟩ rfl rfl ?_
          refine SxL.off ⟨_, _, _, rfl, rfl, rfl, nofun⟩ rfl rfl ?_
          refine SxL.val (v := .bool true) trivial rfl rfl (fun ρ w E H => ex_pick E rfl (t := true) rfl rfl) ?_
          refine SxL.nil ?_
          have hq3 : true = !forR (⟨id, n, L, true, dst⟩ : Rc) (⟨ls, ld, lk, lbn, lbr, lba, lsl, lno, lv, lvo, lit, ⟨lca, lcb, lck, lcs, lct, lcu, lcz⟩, lco, lte⟩ : Lt) := by
            unfold forR; dsimp only; rw [hq]; dsimp only; clear hr
            simp [cmpB] at hc21 hc29
            first | (simp; done) | (simp; omega) | (simp; intros; omega)
          refine SxN.meet true hq3 ⟨rfl, rfl, rfl, rfl, rfl, rfl, rfl, rfl, rfl, trivial⟩ [0, 1, 2, 3, 4, 5] rfl (by decide) ⟨.inl rfl, .inl rfl, .inl rfl, .inl rfl, .inl rfl, .inl rfl, trivial⟩
      · refine SxL.off ⟨_, _, _, rfl, rfl, rfl, nofun⟩ rfl rfl ?_
        refine SxL.off ⟨_, _, _, rfl, rfl, rfl, nofun⟩ rfl rfl ?_
        refine SxL.off ⟨_, _, _, rfl, rfl, rfl, nofun⟩ rfl rfl ?_
        refine SxL.off ⟨_, _, _, rfl, rfl, rfl, nofun⟩ rfl rfl ?_
        refine SxL.off ⟨_, _, _, rfl, rfl, rfl, nofun⟩ rfl rfl ?_
        refine SxL.off ⟨_, _, _, rfl, rfl, rfl, nofun⟩ rfl rfl ?_
        refine SxL.val (v := .bool true) trivial rfl rfl (fun ρ w E H => ex_pick E rfl (t := true) rfl rfl) ?_
        refine SxL.val (v := .bool true) trivial rfl rfl (fun ρ w E H => ex_move E rfl rfl) ?_
        refine SxL.off ⟨_, _, _, rfl, rfl, rfl, nofun⟩ rfl rfl ?_
        refine SxL.off ⟨_, _, _, rfl, rfl, rfl, nofun⟩ rfl rfl ?_
        refine SxL.off ⟨_, _, _, rfl, rfl, rfl, nofun⟩ rfl rfl ?_
        refine SxL.off ⟨_, _, _, rfl, rfl, rfl, nofun⟩ rfl rfl ?_
        refine SxL.off ⟨_, _, _, rfl, rfl, rfl, nofun⟩ rfl rfl ?_
        refine SxL.off ⟨_, _, _, rfl, rfl, rfl, nofun⟩ rfl rfl ?_
        refine SxL.off ⟨_, _, _, rfl, rfl, rfl, nofun⟩ rfl rfl ?_
        refine SxL.val (v := .bool true) trivial rfl rfl (fun ρ w E H => ex_pick E rfl (t := true) rfl rfl) ?_
        refine SxL.val (v := .bool true) trivial rfl rfl (fun ρ w E H => ex_move E rfl rfl) ?_
        refine SxL.off ⟨_, _, _, rfl, rfl, rfl, nofun⟩ rfl rfl ?_
        refine SxL.off ⟨_, _, _, rfl, rfl, rfl, nofun⟩ rfl rfl ?_
        refine SxL.off ⟨_, _, _, rfl, rfl, rfl, nofun⟩ rfl rfl ?_
        refine SxL.off ⟨_, _, _, rfl, rfl, rfl, nofun⟩ rfl rfl ?_
        refine SxL.off ⟨_, _, _, rfl, rfl, rfl, nofun⟩ rfl rfl ?_
        refine SxL.off ⟨_, _, _, rfl, rfl, rfl, nofun⟩ rfl rfl ?_
        refine SxL.off ⟨_, _, _, rfl, rfl, rfl, nofun⟩ rfl rfl ?_
        refine SxL.val (v := .bool true) trivial rfl rfl (fun ρ w E H => ex_pick E rfl (t := true) rfl rfl) ?_
        refine SxL.nil ?_
        have hq3 : true = !forR (⟨id, n, L, true, dst⟩ : Rc) (⟨ls, ld, lk, lbn, lbr, lba, lsl, lno, lv, lvo, lit, ⟨lca, lcb, lck, lcs, lct, lcu, lcz⟩, lco, lte⟩ : Lt) := by
          unfold forR; dsimp only; rw [hq]; dsimp only; clear hr
          simp [cmpB] at hc21
          first | (simp; done) | (simp; omega) | (simp; intros; omega)
        refine SxN.meet true hq3 ⟨rfl, rfl, rfl, rfl, rfl, rfl, rfl, rfl, rfl, trivial⟩ [0, 1, 2, 3, 4, 5] rfl (by decide) ⟨.inl rfl, .inl rfl, .inl rfl, .inl rfl, .inl rfl, .inl rfl, trivial⟩
  refine SxN.then_ ?_
  cases b48
  · refine SxC.condF rfl ?_
    refine SxC.skip ?_
    refine SxN.then_ ?_
    refine SxC.seq ?_
    refine SxC.seq ?_
    refine SxC.region ?_
    refine SxL.val (v := .pointer (some ⟨g2, 2, none⟩)) trivial rfl rfl (fun ρ w E H => ex_field E rfl fa_palaver_api_Letter_2 rfl rfl) ?_
    refine SxL.val (v := .pointer (some ⟨g2, 2, none⟩)) trivial rfl rfl (fun ρ w E H => ex_field E rfl fa_palaver_api_Msg_0 rfl rfl) ?_
    refine SxL.val (v := .int .u8 (lk : Int)) trivial rfl rfl (fun ρ w E H => ex_load1 E (H.get (i := 4) rfl) rfl rfl Try.underlying5 rfl rfl) ?_
    refine SxL.valB trivial rfl rfl (fun ρ w E H => ex_cmp E rfl rfl rfl rfl rfl) fun c55 hc55 => ?_
    refine SxL.val (v := .bool c55) trivial rfl rfl (fun ρ w E H => ex_move E rfl rfl) ?_
    cases c55
    · refine SxL.off ⟨_, _, _, rfl, rfl, rfl, nofun⟩ rfl rfl ?_
      refine SxL.off ⟨_, _, _, rfl, rfl, rfl, nofun⟩ rfl rfl ?_
      refine SxL.off ⟨_, _, _, rfl, rfl, rfl, nofun⟩ rfl rfl ?_
      refine SxL.off ⟨_, _, _, rfl, rfl, rfl, nofun⟩ rfl rfl ?_
      refine SxL.off ⟨_, _, _, rfl, rfl, rfl, nofun⟩ rfl rfl ?_
      refine SxL.off ⟨_, _, _, rfl, rfl, rfl, nofun⟩ rfl rfl ?_
      refine SxL.off ⟨_, _, _, rfl, rfl, rfl, nofun⟩ rfl rfl ?_
      refine SxL.val (v := .bool false) trivial rfl rfl (fun ρ w E H => ex_pick E rfl (t := false) rfl rfl) ?_
      refine SxL.nil ?_
      refine SxN.then_ ?_
      refine SxC.condF rfl ?_
      refine SxC.skip ?_
      refine SxN.then_ ?_
      refine SxC.seq ?_
      refine SxC.seq ?_
      refine SxC.region ?_
      refine SxL.val (v := .pointer (some ⟨g2, 2, none⟩)) trivial rfl rfl (fun ρ w E H => ex_field E rfl fa_palaver_api_Letter_2 rfl rfl) ?_
      refine SxL.val (v := .pointer (some ⟨g2, 2, none⟩)) trivial rfl rfl (fun ρ w E H => ex_field E rfl fa_palaver_api_Msg_0 rfl rfl) ?_
      refine SxL.val (v := .int .u8 (lk : Int)) trivial rfl rfl (fun ρ w E H => ex_load1 E (H.get (i := 4) rfl) rfl rfl Try.underlying5 rfl rfl) ?_
      refine SxL.valB trivial rfl rfl (fun ρ w E H => ex_cmp E rfl rfl rfl rfl rfl) fun c76 hc76 => ?_
      refine SxL.val (v := .bool c76) trivial rfl rfl (fun ρ w E H => ex_move E rfl rfl) ?_
      cases c76
      · refine SxL.off ⟨_, _, _, rfl, rfl, rfl, nofun⟩ rfl rfl ?_
        refine SxL.off ⟨_, _, _, rfl, rfl, rfl, nofun⟩ rfl rfl ?_
        refine SxL.off ⟨_, _, _, rfl, rfl, rfl, nofun⟩ rfl rfl ?_
        refine SxL.off ⟨_, _, _, rfl, rfl, rfl, nofun⟩ rfl rfl ?_
        refine SxL.off ⟨_, _, _, rfl, rfl, rfl, nofun⟩ rfl rfl ?_
        refine SxL.val (v := .bool false) trivial rfl rfl (fun ρ w E H => ex_pick E rfl (t := false) rfl rfl) ?_
        refine SxL.nil ?_
        refine SxN.then_ ?_
        refine SxC.condF rfl ?_
        refine SxC.skip ?_
        refine SxN.then_ ?_
        refine SxC.seq ?_
        refine SxC.region ?_
        refine SxL.val (v := .agg #[.int .u8 (id : Int), .int .i64 (n : Int), .slice A L.length k, .bool wt, .int .u8 (dst : Int)]) trivial rfl rfl (fun ρ w E H => ex_load (part := [.int .u8 (id : Int), .int .i64 (n : Int), .slice A L.length k, .bool wt, .int .u8 (dst : Int)]) E (H.get (i := 5) rfl) rfl rfl Try.underlying32 rfl sz_palaver_palaverref27_Client rfl rfl) ?_
        refine SxL.val (v := .agg #[.int .u8 0, .int .u8 0, .int .u8 0, .int .u64 0, .int .u8 0, .int .u64 0, .int .u64 0, .int .u8 0, .string ⟨[].toArray⟩, .slice none 0 0, .slice none 0 0, .int .u8 0, .int .u32 0, .int .u8 0, .string ⟨[].toArray⟩, .string ⟨[].toArray⟩, .string ⟨[].toArray⟩, .int .u8 0, .int .u8 0, .string ⟨[].toArray⟩]) trivial rfl rfl (fun ρ w E H => ex_build (cs := [.int .u8 0, .int .u8 0, .int .u8 0, .int .u64 0, .int .u8 0, .int .u64 0, .int .u64 0, .int .u8 0, .string ⟨[].toArray⟩, .slice none 0 0, .slice none 0 0, .int .u8 0, .int .u32 0, .int .u8 0, .string ⟨[].toArray⟩, .string ⟨[].toArray⟩, .string ⟨[].toArray⟩, .int .u8 0, .int .u8 0, .string ⟨[].toArray⟩]) E rfl rfl (by kernel_rfl)) ?_
        refine SxL.val (v := .agg #[.int .u8 0, .string ⟨[].toArray⟩]) trivial rfl rfl (fun ρ w E H => ex_build (cs := [.int .u8 0, .string ⟨[].toArray⟩]) E rfl rfl (by kernel_rfl)) ?_
        refine SxL.storeX (i := 3) [.int .u8 (id : Int), .int .i64 (n : Int), .slice A L.length k, .bool wt, .int .u8 (dst : Int)] trivial rfl rfl rfl rfl rfl sz_palaver_palaverref27_Client rfl rfl rfl (putL_all _ _ rfl) ?_
        refine SxL.storeX (i := 2) [.int .u8 0, .int .u8 0, .int .u8 0, .int .u64 0, .int .u8 0, .int .u64 0, .int .u64 0, .int .u8 0, .string ⟨[].toArray⟩, .slice none 0 0, .slice none 0 0, .int .u8 0, .int .u32 0, .int .u8 0, .string ⟨[].toArray⟩, .string ⟨[].toArray⟩, .string ⟨[].toArray⟩, .int .u8 0, .int .u8 0, .string ⟨[].toArray⟩] trivial rfl rfl rfl rfl rfl sz_palaver_api_Letter rfl rfl rfl (putL_all _ _ rfl) ?_
        refine SxL.val (v := .bool false) trivial rfl rfl (fun ρ w E H => ex_assign E rfl rfl) ?_
        refine SxL.storeX (i := 1) [.int .u8 0, .string ⟨[].toArray⟩] trivial rfl rfl rfl rfl rfl sz_palaver_api_Reply rfl rfl rfl (putL_all _ _ rfl) ?_
        refine SxL.val (v := .bool false) trivial rfl rfl (fun ρ w E H => ex_assign E rfl rfl) ?_
        refine SxL.nil ?_
        refine SxN.then_ ?_
        refine SxC.ret ?_
        refine SxX.done (.tuple #[.agg #[.int .u8 (id : Int), .int .i64 (n : Int), .slice A L.length k, .bool wt, .int .u8 (dst : Int)], .agg #[.int .u8 0, .int .u8 0, .int .u8 0, .int .u64 0, .int .u8 0, .int .u64 0, .int .u64 0, .int .u8 0, .string ⟨[].toArray⟩, .slice none 0 0, .slice none 0 0, .int .u8 0, .int .u32 0, .int .u8 0, .string ⟨[].toArray⟩, .string ⟨[].toArray⟩, .string ⟨[].toArray⟩, .int .u8 0, .int .u8 0, .string ⟨[].toArray⟩], .bool false, .agg #[.int .u8 0, .string ⟨[].toArray⟩], .bool false]) (fun a w K H => resM K [.agg #[.int .u8 (id : Int), .int .i64 (n : Int), .slice A L.length k, .bool wt, .int .u8 (dst : Int)], .agg #[.int .u8 0, .int .u8 0, .int .u8 0, .int .u64 0, .int .u8 0, .int .u64 0, .int .u64 0, .int .u8 0, .string ⟨[].toArray⟩, .slice none 0 0, .slice none 0 0, .int .u8 0, .int .u32 0, .int .u8 0, .string ⟨[].toArray⟩, .string ⟨[].toArray⟩, .string ⟨[].toArray⟩, .int .u8 0, .int .u8 0, .string ⟨[].toArray⟩], .bool false, .agg #[.int .u8 0, .string ⟨[].toArray⟩], .bool false] rfl rfl ⟨⟨_, rfl, blk_loadVar (H.get (i := 3) rfl) Try.underlying32 rfl sz_palaver_palaverref27_Client⟩, ⟨_, rfl, blk_loadVar (H.get (i := 2) rfl) Try.underlying47 rfl sz_palaver_api_Letter⟩, rfl, ⟨_, rfl, blk_loadVar (H.get (i := 1) rfl) Try.underlying43 rfl sz_palaver_api_Reply⟩, rfl, trivial⟩) (fun w H => ?_)
        have hq2 : hearR (⟨id, n, L, wt, dst⟩ : Rc) (⟨ls, ld, lk, lbn, lbr, lba, lsl, lno, lv, lvo, lit, ⟨lca, lcb, lck, lcs, lct, lcu, lcz⟩, lco, lte⟩ : Lt) = (⟨id, n, L, wt, dst⟩, lt0, false, (0, []), false) := by
          unfold hearR
          rw [if_neg (by revert hb48; cases forR (⟨id, n, L, wt, dst⟩ : Rc) (⟨ls, ld, lk, lbn, lbr, lba, lsl, lno, lv, lvo, lit, ⟨lca, lcb, lck, lcs, lct, lcu, lcz⟩, lco, lte⟩ : Lt) <;> simp)]
          rw [if_neg (by clear hr; dsimp only; grind [cmpB]), if_neg (by clear hr; dsimp only; grind [cmpB])]
        refine ⟨?_, H.toBelow ⟨(fun g hg => by rw [List.mem_singleton.1 hg]; exact hg6), (fun g hg => by rw [List.mem_singleton.1 hg]; exact hg5), (fun g hg => by rw [List.mem_singleton.1 hg]; exact hg4), (fun g hg => by rw [List.mem_singleton.1 hg]; exact hg3), (fun g hg => by rw [List.mem_singleton.1 hg]; exact hg2), (fun g hg => by rw [List.mem_singleton.1 hg]; exact hg1), trivial⟩⟩
        rw [hq2]
        rfl
      · refine SxL.val (v := .pointer (some ⟨g2, 2, none⟩)) ⟨_, _, rfl, rfl, rfl⟩ rfl rfl (fun ρ w E H => ex_field E rfl fa_palaver_api_Letter_2 rfl rfl) ?_
        refine SxL.val (v := .pointer (some ⟨g2, 18, none⟩)) ⟨_, _, rfl, rfl, rfl⟩ rfl rfl (fun ρ w E H => ex_field E rfl fa_palaver_api_Msg_9 rfl rfl) ?_
        refine SxL.val (v := .pointer (some ⟨g2, 18, none⟩)) ⟨_, _, rfl, rfl, rfl⟩ rfl rfl (fun ρ w E H => ex_field E rfl fa_palaver_api_Reply_0 rfl rfl) ?_
        refine SxL.val (v := .int .u8 (lco : Int)) ⟨_, _, rfl, rfl, rfl⟩ rfl rfl (fun ρ w E H => ex_load1 E (H.get (i := 4) rfl) rfl rfl Try.underlying5 rfl rfl) ?_
        refine SxL.valB ⟨_, _, rfl, rfl, rfl⟩ rfl rfl (fun ρ w E H => ex_cmp E rfl rfl rfl rfl rfl) fun c82 hc82 => ?_
        refine SxL.val (v := .bool c82) trivial rfl rfl (fun ρ w E H => ex_pick E rfl (t := true) rfl rfl) ?_
        refine SxL.nil ?_
        refine SxN.then_ ?_
        cases c82
        · refine SxC.condF rfl ?_
          refine SxC.skip ?_
          refine SxN.then_ ?_
          refine SxC.seq ?_
          refine SxC.region ?_
          refine SxL.val (v := .agg #[.int .u8 (id : Int), .int .i64 (n : Int), .slice A L.length k, .bool wt, .int .u8 (dst : Int)]) trivial rfl rfl (fun ρ w E H => ex_load (part := [.int .u8 (id : Int), .int .i64 (n : Int), .slice A L.length k, .bool wt, .int .u8 (dst : Int)]) E (H.get (i := 5) rfl) rfl rfl Try.underlying32 rfl sz_palaver_palaverref27_Client rfl rfl) ?_
          refine SxL.val (v := .agg #[.int .u8 0, .int .u8 0, .int .u8 0, .int .u64 0, .int .u8 0, .int .u64 0, .int .u64 0, .int .u8 0, .string ⟨[].toArray⟩, .slice none 0 0, .slice none 0 0, .int .u8 0, .int .u32 0, .int .u8 0, .string ⟨[].toArray⟩, .string ⟨[].toArray⟩, .string ⟨[].toArray⟩, .int .u8 0, .int .u8 0, .string ⟨[].toArray⟩]) trivial rfl rfl (fun ρ w E H => ex_build (cs := [.int .u8 0, .int .u8 0, .int .u8 0, .int .u64 0, .int .u8 0, .int .u64 0, .int .u64 0, .int .u8 0, .string ⟨[].toArray⟩, .slice none 0 0, .slice none 0 0, .int .u8 0, .int .u32 0, .int .u8 0, .string ⟨[].toArray⟩, .string ⟨[].toArray⟩, .string ⟨[].toArray⟩, .int .u8 0, .int .u8 0, .string ⟨[].toArray⟩]) E rfl rfl (by kernel_rfl)) ?_
          refine SxL.val (v := .agg #[.int .u8 0, .string ⟨[].toArray⟩]) trivial rfl rfl (fun ρ w E H => ex_build (cs := [.int .u8 0, .string ⟨[].toArray⟩]) E rfl rfl (by kernel_rfl)) ?_
          refine SxL.storeX (i := 3) [.int .u8 (id : Int), .int .i64 (n : Int), .slice A L.length k, .bool wt, .int .u8 (dst : Int)] trivial rfl rfl rfl rfl rfl sz_palaver_palaverref27_Client rfl rfl rfl (putL_all _ _ rfl) ?_
          refine SxL.storeX (i := 2) [.int .u8 0, .int .u8 0, .int .u8 0, .int .u64 0, .int .u8 0, .int .u64 0, .int .u64 0, .int .u8 0, .string ⟨[].toArray⟩, .slice none 0 0, .slice none 0 0, .int .u8 0, .int .u32 0, .int .u8 0, .string ⟨[].toArray⟩, .string ⟨[].toArray⟩, .string ⟨[].toArray⟩, .int .u8 0, .int .u8 0, .string ⟨[].toArray⟩] trivial rfl rfl rfl rfl rfl sz_palaver_api_Letter rfl rfl rfl (putL_all _ _ rfl) ?_
          refine SxL.val (v := .bool false) trivial rfl rfl (fun ρ w E H => ex_assign E rfl rfl) ?_
          refine SxL.storeX (i := 1) [.int .u8 0, .string ⟨[].toArray⟩] trivial rfl rfl rfl rfl rfl sz_palaver_api_Reply rfl rfl rfl (putL_all _ _ rfl) ?_
          refine SxL.val (v := .bool false) trivial rfl rfl (fun ρ w E H => ex_assign E rfl rfl) ?_
          refine SxL.nil ?_
          refine SxN.then_ ?_
          refine SxC.ret ?_
          refine SxX.done (.tuple #[.agg #[.int .u8 (id : Int), .int .i64 (n : Int), .slice A L.length k, .bool wt, .int .u8 (dst : Int)], .agg #[.int .u8 0, .int .u8 0, .int .u8 0, .int .u64 0, .int .u8 0, .int .u64 0, .int .u64 0, .int .u8 0, .string ⟨[].toArray⟩, .slice none 0 0, .slice none 0 0, .int .u8 0, .int .u32 0, .int .u8 0, .string ⟨[].toArray⟩, .string ⟨[].toArray⟩, .string ⟨[].toArray⟩, .int .u8 0, .int .u8 0, .string ⟨[].toArray⟩], .bool false, .agg #[.int .u8 0, .string ⟨[].toArray⟩], .bool false]) (fun a w K H => resM K [.agg #[.int .u8 (id : Int), .int .i64 (n : Int), .slice A L.length k, .bool wt, .int .u8 (dst : Int)], .agg #[.int .u8 0, .int .u8 0, .int .u8 0, .int .u64 0, .int .u8 0, .int .u64 0, .int .u64 0, .int .u8 0, .string ⟨[].toArray⟩, .slice none 0 0, .slice none 0 0, .int .u8 0, .int .u32 0, .int .u8 0, .string ⟨[].toArray⟩, .string ⟨[].toArray⟩, .string ⟨[].toArray⟩, .int .u8 0, .int .u8 0, .string ⟨[].toArray⟩], .bool false, .agg #[.int .u8 0, .string ⟨[].toArray⟩], .bool false] rfl rfl ⟨⟨_, rfl, blk_loadVar (H.get (i := 3) rfl) Try.underlying32 rfl sz_palaver_palaverref27_Client⟩, ⟨_, rfl, blk_loadVar (H.get (i := 2) rfl) Try.underlying47 rfl sz_palaver_api_Letter⟩, rfl, ⟨_, rfl, blk_loadVar (H.get (i := 1) rfl) Try.underlying43 rfl sz_palaver_api_Reply⟩, rfl, trivial⟩) (fun w H => ?_)
          have hq2 : hearR (⟨id, n, L, wt, dst⟩ : Rc) (⟨ls, ld, lk, lbn, lbr, lba, lsl, lno, lv, lvo, lit, ⟨lca, lcb, lck, lcs, lct, lcu, lcz⟩, lco, lte⟩ : Lt) = (⟨id, n, L, wt, dst⟩, lt0, false, (0, []), false) := by
            unfold hearR
            rw [if_neg (by revert hb48; cases forR (⟨id, n, L, wt, dst⟩ : Rc) (⟨ls, ld, lk, lbn, lbr, lba, lsl, lno, lv, lvo, lit, ⟨lca, lcb, lck, lcs, lct, lcu, lcz⟩, lco, lte⟩ : Lt) <;> simp)]
            rw [if_neg (by clear hr; dsimp only; grind [cmpB]), if_neg (by clear hr; dsimp only; grind [cmpB])]
          refine ⟨?_, H.toBelow ⟨(fun g hg => by rw [List.mem_singleton.1 hg]; exact hg6), (fun g hg => by rw [List.mem_singleton.1 hg]; exact hg5), (fun g hg => by rw [List.mem_singleton.1 hg]; exact hg4), (fun g hg => by rw [List.mem_singleton.1 hg]; exact hg3), (fun g hg => by rw [List.mem_singleton.1 hg]; exact hg2), (fun g hg => by rw [List.mem_singleton.1 hg]; exact hg1), trivial⟩⟩
          rw [hq2]
          rfl
        · refine SxC.condT rfl ?_
          refine SxC.seq ?_
          refine SxC.region ?_
          refine SxL.val (v := .pointer (some ⟨g1, 3, none⟩)) trivial rfl rfl (fun ρ w E H => ex_field E rfl fa_palaver_palaverref27_Client_3 rfl rfl) ?_
          refine SxL.storeX (i := 5) [.int .u8 (id : Int), .int .i64 (n : Int), .slice A L.length k, .bool false, .int .u8 (dst : Int)] trivial rfl rfl rfl rfl rfl sz_bool rfl rfl rfl rfl ?_
          refine SxL.nil ?_
          refine SxN.then_ ?_
          refine SxC.seq ?_
          refine SxC.drawnK [] [0, 2, 4, 5] (by kernel_rfl) rfl ⟨(fun g hg => by rw [List.mem_singleton.1 hg]; exact .inr hg6), (fun g hg => by rw [List.mem_singleton.1 hg]; exact .inr hg5), (fun g hg => by rw [List.mem_singleton.1 hg]; exact .inr hg4), (fun g hg => by rw [List.mem_singleton.1 hg]; exact .inr hg3), (fun g hg => by rw [List.mem_singleton.1 hg]; exact .inr hg2), (fun g hg => by rw [List.mem_singleton.1 hg]; exact .inr hg1), trivial⟩ ?_
          refine SxA.take (i := 0) (v := .agg #[.int .u8 (id : Int), .int .i64 (n : Int), .slice A L.length k, .bool false, .int .u8 (dst : Int)]) rfl (by kernel_rfl) (by kernel_rfl) (by kernel_rfl) rfl rfl (fun _ _ _ h => h) trivial (fun ρ w E H => ex_load (part := [.int .u8 (id : Int), .int .i64 (n : Int), .slice A L.length k, .bool false, .int .u8 (dst : Int)]) E (H.get (i := 3) rfl) rfl rfl Try.underlying32 rfl sz_palaver_palaverref27_Client rfl rfl) ?_
          refine SxA.take (i := 1) (v := .agg #[.int .u8 0, .int .u8 0, .int .u8 0, .int .u64 0, .int .u8 0, .int .u64 0, .int .u64 0, .int .u8 0, .string ⟨[].toArray⟩, .slice none 0 0, .slice none 0 0, .int .u8 0, .int .u32 0, .int .u8 0, .string ⟨[].toArray⟩, .string ⟨[].toArray⟩, .string ⟨[].toArray⟩, .int .u8 0, .int .u8 0, .string ⟨[].toArray⟩]) rfl (by kernel_rfl) (by kernel_rfl) (by kernel_rfl) rfl rfl (fun _ _ _ h => h) trivial (fun ρ w E H => ex_build (cs := [.int .u8 0, .int .u8 0, .int .u8 0, .int .u64 0, .int .u8 0, .int .u64 0, .int .u64 0, .int .u8 0, .string ⟨[].toArray⟩, .slice none 0 0, .slice none 0 0, .int .u8 0, .int .u32 0, .int .u8 0, .string ⟨[].toArray⟩, .string ⟨[].toArray⟩, .string ⟨[].toArray⟩, .int .u8 0, .int .u8 0, .string ⟨[].toArray⟩]) E rfl rfl (by kernel_rfl)) ?_
          refine SxA.take (i := 2) (v := .pointer (some ⟨g2, 2, none⟩)) rfl (by kernel_rfl) (by kernel_rfl) (by kernel_rfl) rfl rfl (fun _ _ _ h => h) trivial (fun ρ w E H => ex_field E rfl fa_palaver_api_Letter_2 rfl rfl) ?_
          refine SxA.take (i := 3) (v := .pointer (some ⟨g2, 18, none⟩)) rfl (by kernel_rfl) (by kernel_rfl) (by kernel_rfl) rfl rfl (fun _ _ _ h => h) trivial (fun ρ w E H => ex_field E rfl fa_palaver_api_Msg_9 rfl rfl) ?_
          refine SxA.take (i := 4) (v := .agg #[.int .u8 (lco : Int), .string ⟨lte.toArray⟩]) rfl (by kernel_rfl) (by kernel_rfl) (by kernel_rfl) rfl rfl (fun _ _ _ h => h) trivial (fun ρ w E H => ex_load (part := [.int .u8 (lco : Int), .string ⟨lte.toArray⟩]) E (H.get (i := 2) rfl) rfl rfl Try.underlying43 rfl sz_palaver_api_Reply rfl rfl) ?_
          refine SxA.ready [5] (by kernel_rfl) (by simp) ⟨?_, trivial⟩
          refine SxO.storeX (j := 3) [.int .u8 (id : Int), .int .i64 (n : Int), .slice A L.length k, .bool false, .int .u8 (dst : Int)] rfl trivial rfl rfl rfl rfl rfl sz_palaver_palaverref27_Client rfl rfl rfl (putL_all _ _ rfl) (fun w H => H.ks [] [0, 2, 4, 5] rfl ⟨(fun g hg => by rw [List.mem_singleton.1 hg]; exact .inr hg6), (fun g hg => by rw [List.mem_singleton.1 hg]; exact .inr hg5), (fun g hg => by rw [List.mem_singleton.1 hg]; exact .inr hg4), (fun g hg => by rw [List.mem_singleton.1 hg]; exact .inr hg3), (fun g hg => by rw [List.mem_singleton.1 hg]; exact .inr hg2), (fun g hg => by rw [List.mem_singleton.1 hg]; exact .inr hg1), trivial⟩) ?_
          refine SxA.ready [6] (by kernel_rfl) (by simp) ⟨?_, trivial⟩
          refine SxO.storeX (j := 2) [.int .u8 0, .int .u8 0, .int .u8 0, .int .u64 0, .int .u8 0, .int .u64 0, .int .u64 0, .int .u8 0, .string ⟨[].toArray⟩, .slice none 0 0, .slice none 0 0, .int .u8 0, .int .u32 0, .int .u8 0, .string ⟨[].toArray⟩, .string ⟨[].toArray⟩, .string ⟨[].toArray⟩, .int .u8 0, .int .u8 0, .string ⟨[].toArray⟩] rfl trivial rfl rfl rfl rfl rfl sz_palaver_api_Letter rfl rfl rfl (putL_all _ _ rfl) (fun w H => H.ks [] [0, 2, 4, 5] rfl ⟨(fun g hg => by rw [List.mem_singleton.1 hg]; exact .inr hg6), (fun g hg => by rw [List.mem_singleton.1 hg]; exact .inr hg5), (fun g hg => by rw [List.mem_singleton.1 hg]; exact .inr hg4), (fun g hg => by rw [List.mem_singleton.1 hg]; exact .inr hg3), (fun g hg => by rw [List.mem_singleton.1 hg]; exact .inr hg2), (fun g hg => by rw [List.mem_singleton.1 hg]; exact .inr hg1), trivial⟩) ?_
          refine SxA.take (i := 7) (v := .bool false) rfl (by kernel_rfl) (by kernel_rfl) (by kernel_rfl) rfl rfl (fun _ _ _ h => h) trivial (fun ρ w E H => ex_assign E rfl rfl) ?_
          refine SxA.ready [8] (by kernel_rfl) (by simp) ⟨?_, trivial⟩
          refine SxO.storeX (j := 1) [.int .u8 (lco : Int), .string ⟨lte.toArray⟩] rfl trivial rfl rfl rfl rfl rfl sz_palaver_api_Reply rfl rfl rfl (putL_all _ _ rfl) (fun w H => H.ks [] [0, 2, 4, 5] rfl ⟨(fun g hg => by rw [List.mem_singleton.1 hg]; exact .inr hg6), (fun g hg => by rw [List.mem_singleton.1 hg]; exact .inr hg5), (fun g hg => by rw [List.mem_singleton.1 hg]; exact .inr hg4), (fun g hg => by rw [List.mem_singleton.1 hg]; exact .inr hg3), (fun g hg => by rw [List.mem_singleton.1 hg]; exact .inr hg2), (fun g hg => by rw [List.mem_singleton.1 hg]; exact .inr hg1), trivial⟩) ?_
          refine SxA.take (i := 9) (v := .bool true) rfl (by kernel_rfl) (by kernel_rfl) (by kernel_rfl) rfl rfl (fun _ _ _ h => h) trivial (fun ρ w E H => ex_assign E rfl rfl) ?_
          refine SxA.done (by kernel_rfl) ?_
          refine SxN.then_ ?_
          refine SxC.ret ?_
          refine SxX.thenR ?_
          refine SxX.done (.tuple #[.agg #[.int .u8 (id : Int), .int .i64 (n : Int), .slice A L.length k, .bool false, .int .u8 (dst : Int)], .agg #[.int .u8 0, .int .u8 0, .int .u8 0, .int .u64 0, .int .u8 0, .int .u64 0, .int .u64 0, .int .u8 0, .string ⟨[].toArray⟩, .slice none 0 0, .slice none 0 0, .int .u8 0, .int .u32 0, .int .u8 0, .string ⟨[].toArray⟩, .string ⟨[].toArray⟩, .string ⟨[].toArray⟩, .int .u8 0, .int .u8 0, .string ⟨[].toArray⟩], .bool false, .agg #[.int .u8 (lco : Int), .string ⟨lte.toArray⟩], .bool true]) (fun a w K H => resM K [.agg #[.int .u8 (id : Int), .int .i64 (n : Int), .slice A L.length k, .bool false, .int .u8 (dst : Int)], .agg #[.int .u8 0, .int .u8 0, .int .u8 0, .int .u64 0, .int .u8 0, .int .u64 0, .int .u64 0, .int .u8 0, .string ⟨[].toArray⟩, .slice none 0 0, .slice none 0 0, .int .u8 0, .int .u32 0, .int .u8 0, .string ⟨[].toArray⟩, .string ⟨[].toArray⟩, .string ⟨[].toArray⟩, .int .u8 0, .int .u8 0, .string ⟨[].toArray⟩], .bool false, .agg #[.int .u8 (lco : Int), .string ⟨lte.toArray⟩], .bool true] rfl rfl ⟨⟨_, rfl, blk_loadVar (H.get (i := 3) rfl) Try.underlying32 rfl sz_palaver_palaverref27_Client⟩, ⟨_, rfl, blk_loadVar (H.get (i := 2) rfl) Try.underlying47 rfl sz_palaver_api_Letter⟩, rfl, ⟨_, rfl, blk_loadVar (H.get (i := 1) rfl) Try.underlying43 rfl sz_palaver_api_Reply⟩, rfl, trivial⟩) (fun w H => ?_)
          have hq2 : hearR (⟨id, n, L, wt, dst⟩ : Rc) (⟨ls, ld, lk, lbn, lbr, lba, lsl, lno, lv, lvo, lit, ⟨lca, lcb, lck, lcs, lct, lcu, lcz⟩, lco, lte⟩ : Lt) = (⟨id, n, L, false, dst⟩, lt0, false, (lco, lte), true) := by
            unfold hearR
            rw [if_neg (by revert hb48; cases forR (⟨id, n, L, wt, dst⟩ : Rc) (⟨ls, ld, lk, lbn, lbr, lba, lsl, lno, lv, lvo, lit, ⟨lca, lcb, lck, lcs, lct, lcu, lcz⟩, lco, lte⟩ : Lt) <;> simp)]
            rw [if_neg (by clear hr; dsimp only; grind [cmpB]), if_pos (by clear hr; dsimp only; grind [cmpB])]
          refine ⟨?_, H.toBelow ⟨(fun g hg => by rw [List.mem_singleton.1 hg]; exact hg6), (fun g hg => by rw [List.mem_singleton.1 hg]; exact hg5), (fun g hg => by rw [List.mem_singleton.1 hg]; exact hg4), (fun g hg => by rw [List.mem_singleton.1 hg]; exact hg3), (fun g hg => by rw [List.mem_singleton.1 hg]; exact hg2), (fun g hg => by rw [List.mem_singleton.1 hg]; exact hg1), trivial⟩⟩
          rw [hq2]
          rfl
    · refine SxL.val (v := .pointer (some ⟨g2, 2, none⟩)) ⟨_, _, rfl, rfl, rfl⟩ rfl rfl (fun ρ w E H => ex_field E rfl fa_palaver_api_Letter_2 rfl rfl) ?_
      refine SxL.val (v := .pointer (some ⟨g2, 7, none⟩)) ⟨_, _, rfl, rfl, rfl⟩ rfl rfl (fun ρ w E H => ex_field E rfl fa_palaver_api_Msg_4 rfl rfl) ?_
      refine SxL.val (v := .int .u8 (lno : Int)) ⟨_, _, rfl, rfl, rfl⟩ rfl rfl (fun ρ w E H => ex_load1 E (H.get (i := 4) rfl) rfl rfl Try.underlying5 rfl rfl) ?_
      refine SxL.val (v := .int .i64 (lno : Int)) ⟨_, _, rfl, rfl, rfl⟩ rfl rfl (fun ρ w E H => ex_convInt E rfl Try.underlying5 Try.underlying3 rfl (by rw [IntKind.wrap_i64]; omega)) ?_
      refine SxL.val (v := .pointer (some ⟨g1, 1, none⟩)) ⟨_, _, rfl, rfl, rfl⟩ rfl rfl (fun ρ w E H => ex_field E rfl fa_palaver_palaverref27_Client_1 rfl rfl) ?_
      refine SxL.val (v := .int .i64 (n : Int)) ⟨_, _, rfl, rfl, rfl⟩ rfl rfl (fun ρ w E H => ex_load1 E (H.get (i := 5) rfl) rfl rfl Try.underlying3 rfl rfl) ?_
      refine SxL.valB ⟨_, _, rfl, rfl, rfl⟩ rfl rfl (fun ρ w E H => ex_cmp E rfl rfl rfl rfl rfl) fun c63 hc63 => ?_
      refine SxL.val (v := .bool c63) trivial rfl rfl (fun ρ w E H => ex_pick E rfl (t := true) rfl rfl) ?_
      refine SxL.nil ?_
      refine SxN.then_ ?_
      cases c63
      · refine SxC.condF rfl ?_
        refine SxC.skip ?_
        refine SxN.then_ ?_
        refine SxC.seq ?_
        refine SxC.seq ?_
        refine SxC.region ?_
        refine SxL.val (v := .pointer (some ⟨g2, 2, none⟩)) trivial rfl rfl (fun ρ w E H => ex_field E rfl fa_palaver_api_Letter_2 rfl rfl) ?_
        refine SxL.val (v := .pointer (some ⟨g2, 2, none⟩)) trivial rfl rfl (fun ρ w E H => ex_field E rfl fa_palaver_api_Msg_0 rfl rfl) ?_
        refine SxL.val (v := .int .u8 (lk : Int)) trivial rfl rfl (fun ρ w E H => ex_load1 E (H.get (i := 4) rfl) rfl rfl Try.underlying5 rfl rfl) ?_
        refine SxL.valB trivial rfl rfl (fun ρ w E H => ex_cmp E rfl rfl rfl rfl rfl) fun c76 hc76 => ?_
        refine SxL.val (v := .bool c76) trivial rfl rfl (fun ρ w E H => ex_move E rfl rfl) ?_
        cases c76
        · refine SxL.off ⟨_, _, _, rfl, rfl, rfl, nofun⟩ rfl rfl ?_
          refine SxL.off ⟨_, _, _, rfl, rfl, rfl, nofun⟩ rfl rfl ?_
          refine SxL.off ⟨_, _, _, rfl, rfl, rfl, nofun⟩ rfl rfl ?_
          refine SxL.off ⟨_, _, _, rfl, rfl, rfl, nofun⟩ rfl rfl ?_
          refine SxL.off ⟨_, _, _, rfl, rfl, rfl, nofun⟩ rfl rfl ?_
          refine SxL.val (v := .bool false) trivial rfl rfl (fun ρ w E H => ex_pick E rfl (t := false) rfl rfl) ?_
          refine SxL.nil ?_
          refine SxN.then_ ?_
          refine SxC.condF rfl ?_
          refine SxC.skip ?_
          refine SxN.then_ ?_
          refine SxC.seq ?_
          refine SxC.region ?_
          refine SxL.val (v := .agg #[.int .u8 (id : Int), .int .i64 (n : Int), .slice A L.length k, .bool wt, .int .u8 (dst : Int)]) trivial rfl rfl (fun ρ w E H => ex_load (part := [.int .u8 (id : Int), .int .i64 (n : Int), .slice A L.length k, .bool wt, .int .u8 (dst : Int)]) E (H.get (i := 5) rfl) rfl rfl Try.underlying32 rfl sz_palaver_palaverref27_Client rfl rfl) ?_
          refine SxL.val (v := .agg #[.int .u8 0, .int .u8 0, .int .u8 0, .int .u64 0, .int .u8 0, .int .u64 0, .int .u64 0, .int .u8 0, .string ⟨[].toArray⟩, .slice none 0 0, .slice none 0 0, .int .u8 0, .int .u32 0, .int .u8 0, .string ⟨[].toArray⟩, .string ⟨[].toArray⟩, .string ⟨[].toArray⟩, .int .u8 0, .int .u8 0, .string ⟨[].toArray⟩]) trivial rfl rfl (fun ρ w E H => ex_build (cs := [.int .u8 0, .int .u8 0, .int .u8 0, .int .u64 0, .int .u8 0, .int .u64 0, .int .u64 0, .int .u8 0, .string ⟨[].toArray⟩, .slice none 0 0, .slice none 0 0, .int .u8 0, .int .u32 0, .int .u8 0, .string ⟨[].toArray⟩, .string ⟨[].toArray⟩, .string ⟨[].toArray⟩, .int .u8 0, .int .u8 0, .string ⟨[].toArray⟩]) E rfl rfl (by kernel_rfl)) ?_
          refine SxL.val (v := .agg #[.int .u8 0, .string ⟨[].toArray⟩]) trivial rfl rfl (fun ρ w E H => ex_build (cs := [.int .u8 0, .string ⟨[].toArray⟩]) E rfl rfl (by kernel_rfl)) ?_
          refine SxL.storeX (i := 3) [.int .u8 (id : Int), .int .i64 (n : Int), .slice A L.length k, .bool wt, .int .u8 (dst : Int)] trivial rfl rfl rfl rfl rfl sz_palaver_palaverref27_Client rfl rfl rfl (putL_all _ _ rfl) ?_
          refine SxL.storeX (i := 2) [.int .u8 0, .int .u8 0, .int .u8 0, .int .u64 0, .int .u8 0, .int .u64 0, .int .u64 0, .int .u8 0, .string ⟨[].toArray⟩, .slice none 0 0, .slice none 0 0, .int .u8 0, .int .u32 0, .int .u8 0, .string ⟨[].toArray⟩, .string ⟨[].toArray⟩, .string ⟨[].toArray⟩, .int .u8 0, .int .u8 0, .string ⟨[].toArray⟩] trivial rfl rfl rfl rfl rfl sz_palaver_api_Letter rfl rfl rfl (putL_all _ _ rfl) ?_
          refine SxL.val (v := .bool false) trivial rfl rfl (fun ρ w E H => ex_assign E rfl rfl) ?_
          refine SxL.storeX (i := 1) [.int .u8 0, .string ⟨[].toArray⟩] trivial rfl rfl rfl rfl rfl sz_palaver_api_Reply rfl rfl rfl (putL_all _ _ rfl) ?_
          refine SxL.val (v := .bool false) trivial rfl rfl (fun ρ w E H => ex_assign E rfl rfl) ?_
          refine SxL.nil ?_
          refine SxN.then_ ?_
          refine SxC.ret ?_
          refine SxX.done (.tuple #[.agg #[.int .u8 (id : Int), .int .i64 (n : Int), .slice A L.length k, .bool wt, .int .u8 (dst : Int)], .agg #[.int .u8 0, .int .u8 0, .int .u8 0, .int .u64 0, .int .u8 0, .int .u64 0, .int .u64 0, .int .u8 0, .string ⟨[].toArray⟩, .slice none 0 0, .slice none 0 0, .int .u8 0, .int .u32 0, .int .u8 0, .string ⟨[].toArray⟩, .string ⟨[].toArray⟩, .string ⟨[].toArray⟩, .int .u8 0, .int .u8 0, .string ⟨[].toArray⟩], .bool false, .agg #[.int .u8 0, .string ⟨[].toArray⟩], .bool false]) (fun a w K H => resM K [.agg #[.int .u8 (id : Int), .int .i64 (n : Int), .slice A L.length k, .bool wt, .int .u8 (dst : Int)], .agg #[.int .u8 0, .int .u8 0, .int .u8 0, .int .u64 0, .int .u8 0, .int .u64 0, .int .u64 0, .int .u8 0, .string ⟨[].toArray⟩, .slice none 0 0, .slice none 0 0, .int .u8 0, .int .u32 0, .int .u8 0, .string ⟨[].toArray⟩, .string ⟨[].toArray⟩, .string ⟨[].toArray⟩, .int .u8 0, .int .u8 0, .string ⟨[].toArray⟩], .bool false, .agg #[.int .u8 0, .string ⟨[].toArray⟩], .bool false] rfl rfl ⟨⟨_, rfl, blk_loadVar (H.get (i := 3) rfl) Try.underlying32 rfl sz_palaver_palaverref27_Client⟩, ⟨_, rfl, blk_loadVar (H.get (i := 2) rfl) Try.underlying47 rfl sz_palaver_api_Letter⟩, rfl, ⟨_, rfl, blk_loadVar (H.get (i := 1) rfl) Try.underlying43 rfl sz_palaver_api_Reply⟩, rfl, trivial⟩) (fun w H => ?_)
          have hq2 : hearR (⟨id, n, L, wt, dst⟩ : Rc) (⟨ls, ld, lk, lbn, lbr, lba, lsl, lno, lv, lvo, lit, ⟨lca, lcb, lck, lcs, lct, lcu, lcz⟩, lco, lte⟩ : Lt) = (⟨id, n, L, wt, dst⟩, lt0, false, (0, []), false) := by
            unfold hearR
            rw [if_neg (by revert hb48; cases forR (⟨id, n, L, wt, dst⟩ : Rc) (⟨ls, ld, lk, lbn, lbr, lba, lsl, lno, lv, lvo, lit, ⟨lca, lcb, lck, lcs, lct, lcu, lcz⟩, lco, lte⟩ : Lt) <;> simp)]
            rw [if_neg (by clear hr; dsimp only; grind [cmpB]), if_neg (by clear hr; dsimp only; grind [cmpB])]
          refine ⟨?_, H.toBelow ⟨(fun g hg => by rw [List.mem_singleton.1 hg]; exact hg6), (fun g hg => by rw [List.mem_singleton.1 hg]; exact hg5), (fun g hg => by rw [List.mem_singleton.1 hg]; exact hg4), (fun g hg => by rw [List.mem_singleton.1 hg]; exact hg3), (fun g hg => by rw [List.mem_singleton.1 hg]; exact hg2), (fun g hg => by rw [List.mem_singleton.1 hg]; exact hg1), trivial⟩⟩
          rw [hq2]
          rfl
        · refine SxL.val (v := .pointer (some ⟨g2, 2, none⟩)) ⟨_, _, rfl, rfl, rfl⟩ rfl rfl (fun ρ w E H => ex_field E rfl fa_palaver_api_Letter_2 rfl rfl) ?_
          refine SxL.val (v := .pointer (some ⟨g2, 18, none⟩)) ⟨_, _, rfl, rfl, rfl⟩ rfl rfl (fun ρ w E H => ex_field E rfl fa_palaver_api_Msg_9 rfl rfl) ?_
          refine SxL.val (v := .pointer (some ⟨g2, 18, none⟩)) ⟨_, _, rfl, rfl, rfl⟩ rfl rfl (fun ρ w E H => ex_field E rfl fa_palaver_api_Reply_0 rfl rfl) ?_
          refine SxL.val (v := .int .u8 (lco : Int)) ⟨_, _, rfl, rfl, rfl⟩ rfl rfl (fun ρ w E H => ex_load1 E (H.get (i := 4) rfl) rfl rfl Try.underlying5 rfl rfl) ?_
          refine SxL.valB ⟨_, _, rfl, rfl, rfl⟩ rfl rfl (fun ρ w E H => ex_cmp E rfl rfl rfl rfl rfl) fun c82 hc82 => ?_
          refine SxL.val (v := .bool c82) trivial rfl rfl (fun ρ w E H => ex_pick E rfl (t := true) rfl rfl) ?_
          refine SxL.nil ?_
          refine SxN.then_ ?_
          cases c82
          · refine SxC.condF rfl ?_
            refine SxC.skip ?_
            refine SxN.then_ ?_
            refine SxC.seq ?_
            refine SxC.region ?_
            refine SxL.val (v := .agg #[.int .u8 (id : Int), .int .i64 (n : Int), .slice A L.length k, .bool wt, .int .u8 (dst : Int)]) trivial rfl rfl (fun ρ w E H => ex_load (part := [.int .u8 (id : Int), .int .i64 (n : Int), .slice A L.length k, .bool wt, .int .u8 (dst : Int)]) E (H.get (i := 5) rfl) rfl rfl Try.underlying32 rfl sz_palaver_palaverref27_Client rfl rfl) ?_
            refine SxL.val (v := .agg #[.int .u8 0, .int .u8 0, .int .u8 0, .int .u64 0, .int .u8 0, .int .u64 0, .int .u64 0, .int .u8 0, .string ⟨[].toArray⟩, .slice none 0 0, .slice none 0 0, .int .u8 0, .int .u32 0, .int .u8 0, .string ⟨[].toArray⟩, .string ⟨[].toArray⟩, .string ⟨[].toArray⟩, .int .u8 0, .int .u8 0, .string ⟨[].toArray⟩]) trivial rfl rfl (fun ρ w E H => ex_build (cs := [.int .u8 0, .int .u8 0, .int .u8 0, .int .u64 0, .int .u8 0, .int .u64 0, .int .u64 0, .int .u8 0, .string ⟨[].toArray⟩, .slice none 0 0, .slice none 0 0, .int .u8 0, .int .u32 0, .int .u8 0, .string ⟨[].toArray⟩, .string ⟨[].toArray⟩, .string ⟨[].toArray⟩, .int .u8 0, .int .u8 0, .string ⟨[].toArray⟩]) E rfl rfl (by kernel_rfl)) ?_
            refine SxL.val (v := .agg #[.int .u8 0, .string ⟨[].toArray⟩]) trivial rfl rfl (fun ρ w E H => ex_build (cs := [.int .u8 0, .string ⟨[].toArray⟩]) E rfl rfl (by kernel_rfl)) ?_
            refine SxL.storeX (i := 3) [.int .u8 (id : Int), .int .i64 (n : Int), .slice A L.length k, .bool wt, .int .u8 (dst : Int)] trivial rfl rfl rfl rfl rfl sz_palaver_palaverref27_Client rfl rfl rfl (putL_all _ _ rfl) ?_
            refine SxL.storeX (i := 2) [.int .u8 0, .int .u8 0, .int .u8 0, .int .u64 0, .int .u8 0, .int .u64 0, .int .u64 0, .int .u8 0, .string ⟨[].toArray⟩, .slice none 0 0, .slice none 0 0, .int .u8 0, .int .u32 0, .int .u8 0, .string ⟨[].toArray⟩, .string ⟨[].toArray⟩, .string ⟨[].toArray⟩, .int .u8 0, .int .u8 0, .string ⟨[].toArray⟩] trivial rfl rfl rfl rfl rfl sz_palaver_api_Letter rfl rfl rfl (putL_all _ _ rfl) ?_
            refine SxL.val (v := .bool false) trivial rfl rfl (fun ρ w E H => ex_assign E rfl rfl) ?_
            refine SxL.storeX (i := 1) [.int .u8 0, .string ⟨[].toArray⟩] trivial rfl rfl rfl rfl rfl sz_palaver_api_Reply rfl rfl rfl (putL_all _ _ rfl) ?_
            refine SxL.val (v := .bool false) trivial rfl rfl (fun ρ w E H => ex_assign E rfl rfl) ?_
            refine SxL.nil ?_
            refine SxN.then_ ?_
            refine SxC.ret ?_
            refine SxX.done (.tuple #[.agg #[.int .u8 (id : Int), .int .i64 (n : Int), .slice A L.length k, .bool wt, .int .u8 (dst : Int)], .agg #[.int .u8 0, .int .u8 0, .int .u8 0, .int .u64 0, .int .u8 0, .int .u64 0, .int .u64 0, .int .u8 0, .string ⟨[].toArray⟩, .slice none 0 0, .slice none 0 0, .int .u8 0, .int .u32 0, .int .u8 0, .string ⟨[].toArray⟩, .string ⟨[].toArray⟩, .string ⟨[].toArray⟩, .int .u8 0, .int .u8 0, .string ⟨[].toArray⟩], .bool false, .agg #[.int .u8 0, .string ⟨[].toArray⟩], .bool false]) (fun a w K H => resM K [.agg #[.int .u8 (id : Int), .int .i64 (n : Int), .slice A L.length k, .bool wt, .int .u8 (dst : Int)], .agg #[.int .u8 0, .int .u8 0, .int .u8 0, .int .u64 0, .int .u8 0, .int .u64 0, .int .u64 0, .int .u8 0, .string ⟨[].toArray⟩, .slice none 0 0, .slice none 0 0, .int .u8 0, .int .u32 0, .int .u8 0, .string ⟨[].toArray⟩, .string ⟨[].toArray⟩, .string ⟨[].toArray⟩, .int .u8 0, .int .u8 0, .string ⟨[].toArray⟩], .bool false, .agg #[.int .u8 0, .string ⟨[].toArray⟩], .bool false] rfl rfl ⟨⟨_, rfl, blk_loadVar (H.get (i := 3) rfl) Try.underlying32 rfl sz_palaver_palaverref27_Client⟩, ⟨_, rfl, blk_loadVar (H.get (i := 2) rfl) Try.underlying47 rfl sz_palaver_api_Letter⟩, rfl, ⟨_, rfl, blk_loadVar (H.get (i := 1) rfl) Try.underlying43 rfl sz_palaver_api_Reply⟩, rfl, trivial⟩) (fun w H => ?_)
            have hq2 : hearR (⟨id, n, L, wt, dst⟩ : Rc) (⟨ls, ld, lk, lbn, lbr, lba, lsl, lno, lv, lvo, lit, ⟨lca, lcb, lck, lcs, lct, lcu, lcz⟩, lco, lte⟩ : Lt) = (⟨id, n, L, wt, dst⟩, lt0, false, (0, []), false) := by
              unfold hearR
              rw [if_neg (by revert hb48; cases forR (⟨id, n, L, wt, dst⟩ : Rc) (⟨ls, ld, lk, lbn, lbr, lba, lsl, lno, lv, lvo, lit, ⟨lca, lcb, lck, lcs, lct, lcu, lcz⟩, lco, lte⟩ : Lt) <;> simp)]
              rw [if_neg (by clear hr; dsimp only; grind [cmpB]), if_neg (by clear hr; dsimp only; grind [cmpB])]
            refine ⟨?_, H.toBelow ⟨(fun g hg => by rw [List.mem_singleton.1 hg]; exact hg6), (fun g hg => by rw [List.mem_singleton.1 hg]; exact hg5), (fun g hg => by rw [List.mem_singleton.1 hg]; exact hg4), (fun g hg => by rw [List.mem_singleton.1 hg]; exact hg3), (fun g hg => by rw [List.mem_singleton.1 hg]; exact hg2), (fun g hg => by rw [List.mem_singleton.1 hg]; exact hg1), trivial⟩⟩
            rw [hq2]
            rfl
          · refine SxC.condT rfl ?_
            refine SxC.seq ?_
            refine SxC.region ?_
            refine SxL.val (v := .pointer (some ⟨g1, 3, none⟩)) trivial rfl rfl (fun ρ w E H => ex_field E rfl fa_palaver_palaverref27_Client_3 rfl rfl) ?_
            refine SxL.storeX (i := 5) [.int .u8 (id : Int), .int .i64 (n : Int), .slice A L.length k, .bool false, .int .u8 (dst : Int)] trivial rfl rfl rfl rfl rfl sz_bool rfl rfl rfl rfl ?_
            refine SxL.nil ?_
            refine SxN.then_ ?_
            refine SxC.seq ?_
            refine SxC.drawnK [] [0, 2, 4, 5] (by kernel_rfl) rfl ⟨(fun g hg => by rw [List.mem_singleton.1 hg]; exact .inr hg6), (fun g hg => by rw [List.mem_singleton.1 hg]; exact .inr hg5), (fun g hg => by rw [List.mem_singleton.1 hg]; exact .inr hg4), (fun g hg => by rw [List.mem_singleton.1 hg]; exact .inr hg3), (fun g hg => by rw [List.mem_singleton.1 hg]; exact .inr hg2), (fun g hg => by rw [List.mem_singleton.1 hg]; exact .inr hg1), trivial⟩ ?_
            refine SxA.take (i := 0) (v := .agg #[.int .u8 (id : Int), .int .i64 (n : Int), .slice A L.length k, .bool false, .int .u8 (dst : Int)]) rfl (by kernel_rfl) (by kernel_rfl) (by kernel_rfl) rfl rfl (fun _ _ _ h => h) trivial (fun ρ w E H => ex_load (part := [.int .u8 (id : Int), .int .i64 (n : Int), .slice A L.length k, .bool false, .int .u8 (dst : Int)]) E (H.get (i := 3) rfl) rfl rfl Try.underlying32 rfl sz_palaver_palaverref27_Client rfl rfl) ?_
            refine SxA.take (i := 1) (v := .agg #[.int .u8 0, .int .u8 0, .int .u8 0, .int .u64 0, .int .u8 0, .int .u64 0, .int .u64 0, .int .u8 0, .string ⟨[].toArray⟩, .slice none 0 0, .slice none 0 0, .int .u8 0, .int .u32 0, .int .u8 0, .string ⟨[].toArray⟩, .string ⟨[].toArray⟩, .string ⟨[].toArray⟩, .int .u8 0, .int .u8 0, .string ⟨[].toArray⟩]) rfl (by kernel_rfl) (by kernel_rfl) (by kernel_rfl) rfl rfl (fun _ _ _ h => h) trivial (fun ρ w E H => ex_build (cs := [.int .u8 0, .int .u8 0, .int .u8 0, .int .u64 0, .int .u8 0, .int .u64 0, .int .u64 0, .int .u8 0, .string ⟨[].toArray⟩, .slice none 0 0, .slice none 0 0, .int .u8 0, .int .u32 0, .int .u8 0, .string ⟨[].toArray⟩, .string ⟨[].toArray⟩, .string ⟨[].toArray⟩, .int .u8 0, .int .u8 0, .string ⟨[].toArray⟩]) E rfl rfl (by kernel_rfl)) ?_
            refine SxA.take (i := 2) (v := .pointer (some ⟨g2, 2, none⟩)) rfl (by kernel_rfl) (by kernel_rfl) (by kernel_rfl) rfl rfl (fun _ _ _ h => h) trivial (fun ρ w E H => ex_field E rfl fa_palaver_api_Letter_2 rfl rfl) ?_
            refine SxA.take (i := 3) (v := .pointer (some ⟨g2, 18, none⟩)) rfl (by kernel_rfl) (by kernel_rfl) (by kernel_rfl) rfl rfl (fun _ _ _ h => h) trivial (fun ρ w E H => ex_field E rfl fa_palaver_api_Msg_9 rfl rfl) ?_
            refine SxA.take (i := 4) (v := .agg #[.int .u8 (lco : Int), .string ⟨lte.toArray⟩]) rfl (by kernel_rfl) (by kernel_rfl) (by kernel_rfl) rfl rfl (fun _ _ _ h => h) trivial (fun ρ w E H => ex_load (part := [.int .u8 (lco : Int), .string ⟨lte.toArray⟩]) E (H.get (i := 2) rfl) rfl rfl Try.underlying43 rfl sz_palaver_api_Reply rfl rfl) ?_
            refine SxA.ready [5] (by kernel_rfl) (by simp) ⟨?_, trivial⟩
            refine SxO.storeX (j := 3) [.int .u8 (id : Int), .int .i64 (n : Int), .slice A L.length k, .bool false, .int .u8 (dst : Int)] rfl trivial rfl rfl rfl rfl rfl sz_palaver_palaverref27_Client rfl rfl rfl (putL_all _ _ rfl) (fun w H => H.ks [] [0, 2, 4, 5] rfl ⟨(fun g hg => by rw [List.mem_singleton.1 hg]; exact .inr hg6), (fun g hg => by rw [List.mem_singleton.1 hg]; exact .inr hg5), (fun g hg => by rw [List.mem_singleton.1 hg]; exact .inr hg4), (fun g hg => by rw [List.mem_singleton.1 hg]; exact .inr hg3), (fun g hg => by rw [List.mem_singleton.1 hg]; exact .inr hg2), (fun g hg => by rw [List.mem_singleton.1 hg]; exact .inr hg1), trivial⟩) ?_
            refine SxA.ready [6] (by kernel_rfl) (by simp) ⟨?_, trivial⟩
            refine SxO.storeX (j := 2) [.int .u8 0, .int .u8 0, .int .u8 0, .int .u64 0, .int .u8 0, .int .u64 0, .int .u64 0, .int .u8 0, .string ⟨[].toArray⟩, .slice none 0 0, .slice none 0 0, .int .u8 0, .int .u32 0, .int .u8 0, .string ⟨[].toArray⟩, .string ⟨[].toArray⟩, .string ⟨[].toArray⟩, .int .u8 0, .int .u8 0, .string ⟨[].toArray⟩] rfl trivial rfl rfl rfl rfl rfl sz_palaver_api_Letter rfl rfl rfl (putL_all _ _ rfl) (fun w H => H.ks [] [0, 2, 4, 5] rfl ⟨(fun g hg => by rw [List.mem_singleton.1 hg]; exact .inr hg6), (fun g hg => by rw [List.mem_singleton.1 hg]; exact .inr hg5), (fun g hg => by rw [List.mem_singleton.1 hg]; exact .inr hg4), (fun g hg => by rw [List.mem_singleton.1 hg]; exact .inr hg3), (fun g hg => by rw [List.mem_singleton.1 hg]; exact .inr hg2), (fun g hg => by rw [List.mem_singleton.1 hg]; exact .inr hg1), trivial⟩) ?_
            refine SxA.take (i := 7) (v := .bool false) rfl (by kernel_rfl) (by kernel_rfl) (by kernel_rfl) rfl rfl (fun _ _ _ h => h) trivial (fun ρ w E H => ex_assign E rfl rfl) ?_
            refine SxA.ready [8] (by kernel_rfl) (by simp) ⟨?_, trivial⟩
            refine SxO.storeX (j := 1) [.int .u8 (lco : Int), .string ⟨lte.toArray⟩] rfl trivial rfl rfl rfl rfl rfl sz_palaver_api_Reply rfl rfl rfl (putL_all _ _ rfl) (fun w H => H.ks [] [0, 2, 4, 5] rfl ⟨(fun g hg => by rw [List.mem_singleton.1 hg]; exact .inr hg6), (fun g hg => by rw [List.mem_singleton.1 hg]; exact .inr hg5), (fun g hg => by rw [List.mem_singleton.1 hg]; exact .inr hg4), (fun g hg => by rw [List.mem_singleton.1 hg]; exact .inr hg3), (fun g hg => by rw [List.mem_singleton.1 hg]; exact .inr hg2), (fun g hg => by rw [List.mem_singleton.1 hg]; exact .inr hg1), trivial⟩) ?_
            refine SxA.take (i := 9) (v := .bool true) rfl (by kernel_rfl) (by kernel_rfl) (by kernel_rfl) rfl rfl (fun _ _ _ h => h) trivial (fun ρ w E H => ex_assign E rfl rfl) ?_
            refine SxA.done (by kernel_rfl) ?_
            refine SxN.then_ ?_
            refine SxC.ret ?_
            refine SxX.thenR ?_
            refine SxX.done (.tuple #[.agg #[.int .u8 (id : Int), .int .i64 (n : Int), .slice A L.length k, .bool false, .int .u8 (dst : Int)], .agg #[.int .u8 0, .int .u8 0, .int .u8 0, .int .u64 0, .int .u8 0, .int .u64 0, .int .u64 0, .int .u8 0, .string ⟨[].toArray⟩, .slice none 0 0, .slice none 0 0, .int .u8 0, .int .u32 0, .int .u8 0, .string ⟨[].toArray⟩, .string ⟨[].toArray⟩, .string ⟨[].toArray⟩, .int .u8 0, .int .u8 0, .string ⟨[].toArray⟩], .bool false, .agg #[.int .u8 (lco : Int), .string ⟨lte.toArray⟩], .bool true]) (fun a w K H => resM K [.agg #[.int .u8 (id : Int), .int .i64 (n : Int), .slice A L.length k, .bool false, .int .u8 (dst : Int)], .agg #[.int .u8 0, .int .u8 0, .int .u8 0, .int .u64 0, .int .u8 0, .int .u64 0, .int .u64 0, .int .u8 0, .string ⟨[].toArray⟩, .slice none 0 0, .slice none 0 0, .int .u8 0, .int .u32 0, .int .u8 0, .string ⟨[].toArray⟩, .string ⟨[].toArray⟩, .string ⟨[].toArray⟩, .int .u8 0, .int .u8 0, .string ⟨[].toArray⟩], .bool false, .agg #[.int .u8 (lco : Int), .string ⟨lte.toArray⟩], .bool true] rfl rfl ⟨⟨_, rfl, blk_loadVar (H.get (i := 3) rfl) Try.underlying32 rfl sz_palaver_palaverref27_Client⟩, ⟨_, rfl, blk_loadVar (H.get (i := 2) rfl) Try.underlying47 rfl sz_palaver_api_Letter⟩, rfl, ⟨_, rfl, blk_loadVar (H.get (i := 1) rfl) Try.underlying43 rfl sz_palaver_api_Reply⟩, rfl, trivial⟩) (fun w H => ?_)
            have hq2 : hearR (⟨id, n, L, wt, dst⟩ : Rc) (⟨ls, ld, lk, lbn, lbr, lba, lsl, lno, lv, lvo, lit, ⟨lca, lcb, lck, lcs, lct, lcu, lcz⟩, lco, lte⟩ : Lt) = (⟨id, n, L, false, dst⟩, lt0, false, (lco, lte), true) := by
              unfold hearR
              rw [if_neg (by revert hb48; cases forR (⟨id, n, L, wt, dst⟩ : Rc) (⟨ls, ld, lk, lbn, lbr, lba, lsl, lno, lv, lvo, lit, ⟨lca, lcb, lck, lcs, lct, lcu, lcz⟩, lco, lte⟩ : Lt) <;> simp)]
              rw [if_neg (by clear hr; dsimp only; grind [cmpB]), if_pos (by clear hr; dsimp only; grind [cmpB])]
            refine ⟨?_, H.toBelow ⟨(fun g hg => by rw [List.mem_singleton.1 hg]; exact hg6), (fun g hg => by rw [List.mem_singleton.1 hg]; exact hg5), (fun g hg => by rw [List.mem_singleton.1 hg]; exact hg4), (fun g hg => by rw [List.mem_singleton.1 hg]; exact hg3), (fun g hg => by rw [List.mem_singleton.1 hg]; exact hg2), (fun g hg => by rw [List.mem_singleton.1 hg]; exact hg1), trivial⟩⟩
            rw [hq2]
            rfl
      · refine SxC.condT rfl ?_
        refine SxC.seq ?_
        refine SxC.region ?_
        refine SxL.val (v := .pointer (some ⟨g2, 2, none⟩)) trivial rfl rfl (fun ρ w E H => ex_field E rfl fa_palaver_api_Letter_2 rfl rfl) ?_
        refine SxL.val (v := .pointer (some ⟨g2, 7, none⟩)) trivial rfl rfl (fun ρ w E H => ex_field E rfl fa_palaver_api_Msg_4 rfl rfl) ?_
        refine SxL.val (v := .int .u8 (lno : Int)) trivial rfl rfl (fun ρ w E H => ex_load1 E (H.get (i := 4) rfl) rfl rfl Try.underlying5 rfl rfl) ?_
        refine SxL.val (v := .pointer (some ⟨g1, 4, none⟩)) trivial rfl rfl (fun ρ w E H => ex_field E rfl fa_palaver_palaverref27_Client_4 rfl rfl) ?_
        refine SxL.storeX (i := 5) [.int .u8 (id : Int), .int .i64 (n : Int), .slice A L.length k, .bool wt, .int .u8 (lno : Int)] trivial rfl rfl rfl rfl rfl sz_uint8 rfl rfl rfl rfl ?_
        refine SxL.nil ?_
        refine SxN.then_ ?_
        refine SxC.seq ?_
        refine SxC.drawnK [] [0, 1, 4, 5] (by kernel_rfl) rfl ⟨(fun g hg => by rw [List.mem_singleton.1 hg]; exact .inr hg6), (fun g hg => by rw [List.mem_singleton.1 hg]; exact .inr hg5), (fun g hg => by rw [List.mem_singleton.1 hg]; exact .inr hg4), (fun g hg => by rw [List.mem_singleton.1 hg]; exact .inr hg3), (fun g hg => by rw [List.mem_singleton.1 hg]; exact .inr hg2), (fun g hg => by rw [List.mem_singleton.1 hg]; exact .inr hg1), trivial⟩ ?_
        refine SxA.take (i := 0) (v := .agg #[.int .u8 (id : Int), .int .i64 (n : Int), .slice A L.length k, .bool wt, .int .u8 (lno : Int)]) rfl (by kernel_rfl) (by kernel_rfl) (by kernel_rfl) rfl rfl (fun _ _ _ h => h) trivial (fun ρ w E H => ex_load (part := [.int .u8 (id : Int), .int .i64 (n : Int), .slice A L.length k, .bool wt, .int .u8 (lno : Int)]) E (H.get (i := 3) rfl) rfl rfl Try.underlying32 rfl sz_palaver_palaverref27_Client rfl rfl) ?_
        refine SxA.take (i := 1) (v := .agg #[.int .u8 (id : Int), .int .i64 (n : Int), .slice A L.length k, .bool wt, .int .u8 (lno : Int)]) rfl (by kernel_rfl) (by kernel_rfl) (by kernel_rfl) rfl rfl (fun _ _ _ h => h) trivial (fun ρ w E H => ex_load (part := [.int .u8 (id : Int), .int .i64 (n : Int), .slice A L.length k, .bool wt, .int .u8 (lno : Int)]) E (H.get (i := 3) rfl) rfl rfl Try.underlying32 rfl sz_palaver_palaverref27_Client rfl rfl) ?_
        refine SxA.take (i := 3) (v := .agg #[.int .u8 0, .string ⟨[].toArray⟩]) rfl (by kernel_rfl) (by kernel_rfl) (by kernel_rfl) rfl rfl (fun _ _ _ h => h) trivial (fun ρ w E H => ex_build (cs := [.int .u8 0, .string ⟨[].toArray⟩]) E rfl rfl (by kernel_rfl)) ?_
        refine SxA.ready [2] (by kernel_rfl) (by simp) ⟨?_, trivial⟩
        refine SxO.callB (v := .agg #[.int .u8 ((16 + id : Nat) : Int), .int .u8 (lno : Int), .int .u8 1, .int .u64 0, .int .u8 0, .int .u64 0, .int .u64 0, .int .u8 0, .string ⟨[].toArray⟩, .slice none 0 0, .slice none 0 0, .int .u8 (qa : Int), .int .u32 (qb : Int), .int .u8 (qk : Int), .string ⟨qs.toArray⟩, .string ⟨qt.toArray⟩, .string ⟨qu.toArray⟩, .int .u8 (qz : Int), .int .u8 0, .string ⟨[].toArray⟩]) rfl trivial rfl rfl (fun ρ w E => ex_call E en_palaver_palaverref27_Client_asks rfl rfl) (fun w H => (rasks_any ⟨id, n, L, wt, lno⟩ h4 L.length rfl (by omega) A k w (hr.below (H.toBelow ⟨(fun g hg => by rw [List.mem_singleton.1 hg]; exact hg6), (fun g hg => by rw [List.mem_singleton.1 hg]; exact hg5), (fun g hg => by rw [List.mem_singleton.1 hg]; exact hg4), (fun g hg => by rw [List.mem_singleton.1 hg]; exact hg3), (fun g hg => by rw [List.mem_singleton.1 hg]; exact hg2), (fun g hg => by rw [List.mem_singleton.1 hg]; exact hg1), trivial⟩))).mono fun _ _ h => ⟨by rw [h.1, ask_last hq]; rfl, h.2⟩) (fun w H => H.ks [] [0, 1, 4, 5] rfl ⟨(fun g hg => by rw [List.mem_singleton.1 hg]; exact .inr hg6), (fun g hg => by rw [List.mem_singleton.1 hg]; exact .inr hg5), (fun g hg => by rw [List.mem_singleton.1 hg]; exact .inr hg4), (fun g hg => by rw [List.mem_singleton.1 hg]; exact .inr hg3), (fun g hg => by rw [List.mem_singleton.1 hg]; exact .inr hg2), (fun g hg => by rw [List.mem_singleton.1 hg]; exact .inr hg1), trivial⟩) ?_
        refine SxA.ready [4] (by kernel_rfl) (by simp) ⟨?_, trivial⟩
        refine SxO.storeX (j := 3) [.int .u8 (id : Int), .int .i64 (n : Int), .slice A L.length k, .bool wt, .int .u8 (lno : Int)] rfl trivial rfl rfl rfl rfl rfl sz_palaver_palaverref27_Client rfl rfl rfl (putL_all _ _ rfl) (fun w H => H.ks [] [0, 1, 4, 5] rfl ⟨(fun g hg => by rw [List.mem_singleton.1 hg]; exact .inr hg6), (fun g hg => by rw [List.mem_singleton.1 hg]; exact .inr hg5), (fun g hg => by rw [List.mem_singleton.1 hg]; exact .inr hg4), (fun g hg => by rw [List.mem_singleton.1 hg]; exact .inr hg3), (fun g hg => by rw [List.mem_singleton.1 hg]; exact .inr hg2), (fun g hg => by rw [List.mem_singleton.1 hg]; exact .inr hg1), trivial⟩) ?_
        refine SxA.ready [5] (by kernel_rfl) (by simp) ⟨?_, trivial⟩
        refine SxO.storeX (j := 2) [.int .u8 ((16 + id : Nat) : Int), .int .u8 (lno : Int), .int .u8 1, .int .u64 0, .int .u8 0, .int .u64 0, .int .u64 0, .int .u8 0, .string ⟨[].toArray⟩, .slice none 0 0, .slice none 0 0, .int .u8 (qa : Int), .int .u32 (qb : Int), .int .u8 (qk : Int), .string ⟨qs.toArray⟩, .string ⟨qt.toArray⟩, .string ⟨qu.toArray⟩, .int .u8 (qz : Int), .int .u8 0, .string ⟨[].toArray⟩] rfl trivial rfl rfl rfl rfl rfl sz_palaver_api_Letter rfl rfl rfl (putL_all _ _ rfl) (fun w H => H.ks [] [0, 1, 4, 5] rfl ⟨(fun g hg => by rw [List.mem_singleton.1 hg]; exact .inr hg6), (fun g hg => by rw [List.mem_singleton.1 hg]; exact .inr hg5), (fun g hg => by rw [List.mem_singleton.1 hg]; exact .inr hg4), (fun g hg => by rw [List.mem_singleton.1 hg]; exact .inr hg3), (fun g hg => by rw [List.mem_singleton.1 hg]; exact .inr hg2), (fun g hg => by rw [List.mem_singleton.1 hg]; exact .inr hg1), trivial⟩) ?_
        refine SxA.take (i := 6) (v := .bool true) rfl (by kernel_rfl) (by kernel_rfl) (by kernel_rfl) rfl rfl (fun _ _ _ h => h) trivial (fun ρ w E H => ex_assign E rfl rfl) ?_
        refine SxA.ready [7] (by kernel_rfl) (by simp) ⟨?_, trivial⟩
        refine SxO.storeX (j := 1) [.int .u8 0, .string ⟨[].toArray⟩] rfl trivial rfl rfl rfl rfl rfl sz_palaver_api_Reply rfl rfl rfl (putL_all _ _ rfl) (fun w H => H.ks [] [0, 1, 4, 5] rfl ⟨(fun g hg => by rw [List.mem_singleton.1 hg]; exact .inr hg6), (fun g hg => by rw [List.mem_singleton.1 hg]; exact .inr hg5), (fun g hg => by rw [List.mem_singleton.1 hg]; exact .inr hg4), (fun g hg => by rw [List.mem_singleton.1 hg]; exact .inr hg3), (fun g hg => by rw [List.mem_singleton.1 hg]; exact .inr hg2), (fun g hg => by rw [List.mem_singleton.1 hg]; exact .inr hg1), trivial⟩) ?_
        refine SxA.take (i := 8) (v := .bool false) rfl (by kernel_rfl) (by kernel_rfl) (by kernel_rfl) rfl rfl (fun _ _ _ h => h) trivial (fun ρ w E H => ex_assign E rfl rfl) ?_
        refine SxA.done (by kernel_rfl) ?_
        refine SxN.then_ ?_
        refine SxC.ret ?_
        refine SxX.thenR ?_
        refine SxX.done (.tuple #[.agg #[.int .u8 (id : Int), .int .i64 (n : Int), .slice A L.length k, .bool wt, .int .u8 (lno : Int)], .agg #[.int .u8 ((16 + id : Nat) : Int), .int .u8 (lno : Int), .int .u8 1, .int .u64 0, .int .u8 0, .int .u64 0, .int .u64 0, .int .u8 0, .string ⟨[].toArray⟩, .slice none 0 0, .slice none 0 0, .int .u8 (qa : Int), .int .u32 (qb : Int), .int .u8 (qk : Int), .string ⟨qs.toArray⟩, .string ⟨qt.toArray⟩, .string ⟨qu.toArray⟩, .int .u8 (qz : Int), .int .u8 0, .string ⟨[].toArray⟩], .bool true, .agg #[.int .u8 0, .string ⟨[].toArray⟩], .bool false]) (fun a w K H => resM K [.agg #[.int .u8 (id : Int), .int .i64 (n : Int), .slice A L.length k, .bool wt, .int .u8 (lno : Int)], .agg #[.int .u8 ((16 + id : Nat) : Int), .int .u8 (lno : Int), .int .u8 1, .int .u64 0, .int .u8 0, .int .u64 0, .int .u64 0, .int .u8 0, .string ⟨[].toArray⟩, .slice none 0 0, .slice none 0 0, .int .u8 (qa : Int), .int .u32 (qb : Int), .int .u8 (qk : Int), .string ⟨qs.toArray⟩, .string ⟨qt.toArray⟩, .string ⟨qu.toArray⟩, .int .u8 (qz : Int), .int .u8 0, .string ⟨[].toArray⟩], .bool true, .agg #[.int .u8 0, .string ⟨[].toArray⟩], .bool false] rfl rfl ⟨⟨_, rfl, blk_loadVar (H.get (i := 3) rfl) Try.underlying32 rfl sz_palaver_palaverref27_Client⟩, ⟨_, rfl, blk_loadVar (H.get (i := 2) rfl) Try.underlying47 rfl sz_palaver_api_Letter⟩, rfl, ⟨_, rfl, blk_loadVar (H.get (i := 1) rfl) Try.underlying43 rfl sz_palaver_api_Reply⟩, rfl, trivial⟩) (fun w H => ?_)
        have hq2 : hearR (⟨id, n, L, wt, dst⟩ : Rc) (⟨ls, ld, lk, lbn, lbr, lba, lsl, lno, lv, lvo, lit, ⟨lca, lcb, lck, lcs, lct, lcu, lcz⟩, lco, lte⟩ : Lt) = (⟨id, n, L, wt, lno⟩, askR ⟨id, n, L, wt, lno⟩, true, (0, []), false) := by
          unfold hearR
          rw [if_neg (by revert hb48; cases forR (⟨id, n, L, wt, dst⟩ : Rc) (⟨ls, ld, lk, lbn, lbr, lba, lsl, lno, lv, lvo, lit, ⟨lca, lcb, lck, lcs, lct, lcu, lcz⟩, lco, lte⟩ : Lt) <;> simp)]
          rw [if_pos (by clear hr; dsimp only; grind [cmpB])]
        refine ⟨?_, H.toBelow ⟨(fun g hg => by rw [List.mem_singleton.1 hg]; exact hg6), (fun g hg => by rw [List.mem_singleton.1 hg]; exact hg5), (fun g hg => by rw [List.mem_singleton.1 hg]; exact hg4), (fun g hg => by rw [List.mem_singleton.1 hg]; exact hg3), (fun g hg => by rw [List.mem_singleton.1 hg]; exact hg2), (fun g hg => by rw [List.mem_singleton.1 hg]; exact hg1), trivial⟩⟩
        rw [hq2]; dsimp only; rw [ask_last hq]
        rfl
  · refine SxC.condT rfl ?_
    refine SxC.seq ?_
    refine SxC.region ?_
    refine SxL.val (v := .agg #[.int .u8 (id : Int), .int .i64 (n : Int), .slice A L.length k, .bool wt, .int .u8 (dst : Int)]) trivial rfl rfl (fun ρ w E H => ex_load (part := [.int .u8 (id : Int), .int .i64 (n : Int), .slice A L.length k, .bool wt, .int .u8 (dst : Int)]) E (H.get (i := 5) rfl) rfl rfl Try.underlying32 rfl sz_palaver_palaverref27_Client rfl rfl) ?_
    refine SxL.val (v := .agg #[.int .u8 0, .int .u8 0, .int .u8 0, .int .u64 0, .int .u8 0, .int .u64 0, .int .u64 0, .int .u8 0, .string ⟨[].toArray⟩, .slice none 0 0, .slice none 0 0, .int .u8 0, .int .u32 0, .int .u8 0, .string ⟨[].toArray⟩, .string ⟨[].toArray⟩, .string ⟨[].toArray⟩, .int .u8 0, .int .u8 0, .string ⟨[].toArray⟩]) trivial rfl rfl (fun ρ w E H => ex_build (cs := [.int .u8 0, .int .u8 0, .int .u8 0, .int .u64 0, .int .u8 0, .int .u64 0, .int .u64 0, .int .u8 0, .string ⟨[].toArray⟩, .slice none 0 0, .slice none 0 0, .int .u8 0, .int .u32 0, .int .u8 0, .string ⟨[].toArray⟩, .string ⟨[].toArray⟩, .string ⟨[].toArray⟩, .int .u8 0, .int .u8 0, .string ⟨[].toArray⟩]) E rfl rfl (by kernel_rfl)) ?_
    refine SxL.val (v := .agg #[.int .u8 0, .string ⟨[].toArray⟩]) trivial rfl rfl (fun ρ w E H => ex_build (cs := [.int .u8 0, .string ⟨[].toArray⟩]) E rfl rfl (by kernel_rfl)) ?_
    refine SxL.storeX (i := 3) [.int .u8 (id : Int), .int .i64 (n : Int), .slice A L.length k, .bool wt, .int .u8 (dst : Int)] trivial rfl rfl rfl rfl rfl sz_palaver_palaverref27_Client rfl rfl rfl (putL_all _ _ rfl) ?_
    refine SxL.storeX (i := 2) [.int .u8 0, .int .u8 0, .int .u8 0, .int .u64 0, .int .u8 0, .int .u64 0, .int .u64 0, .int .u8 0, .string ⟨[].toArray⟩, .slice none 0 0, .slice none 0 0, .int .u8 0, .int .u32 0, .int .u8 0, .string ⟨[].toArray⟩, .string ⟨[].toArray⟩, .string ⟨[].toArray⟩, .int .u8 0, .int .u8 0, .string ⟨[].toArray⟩] trivial rfl rfl rfl rfl rfl sz_palaver_api_Letter rfl rfl rfl (putL_all _ _ rfl) ?_
    refine SxL.val (v := .bool false) trivial rfl rfl (fun ρ w E H => ex_assign E rfl rfl) ?_
    refine SxL.storeX (i := 1) [.int .u8 0, .string ⟨[].toArray⟩] trivial rfl rfl rfl rfl rfl sz_palaver_api_Reply rfl rfl rfl (putL_all _ _ rfl) ?_
    refine SxL.val (v := .bool false) trivial rfl rfl (fun ρ w E H => ex_assign E rfl rfl) ?_
    refine SxL.nil ?_
    refine SxN.then_ ?_
    refine SxC.ret ?_
    refine SxX.thenR ?_
    refine SxX.done (.tuple #[.agg #[.int .u8 (id : Int), .int .i64 (n : Int), .slice A L.length k, .bool wt, .int .u8 (dst : Int)], .agg #[.int .u8 0, .int .u8 0, .int .u8 0, .int .u64 0, .int .u8 0, .int .u64 0, .int .u64 0, .int .u8 0, .string ⟨[].toArray⟩, .slice none 0 0, .slice none 0 0, .int .u8 0, .int .u32 0, .int .u8 0, .string ⟨[].toArray⟩, .string ⟨[].toArray⟩, .string ⟨[].toArray⟩, .int .u8 0, .int .u8 0, .string ⟨[].toArray⟩], .bool false, .agg #[.int .u8 0, .string ⟨[].toArray⟩], .bool false]) (fun a w K H => resM K [.agg #[.int .u8 (id : Int), .int .i64 (n : Int), .slice A L.length k, .bool wt, .int .u8 (dst : Int)], .agg #[.int .u8 0, .int .u8 0, .int .u8 0, .int .u64 0, .int .u8 0, .int .u64 0, .int .u64 0, .int .u8 0, .string ⟨[].toArray⟩, .slice none 0 0, .slice none 0 0, .int .u8 0, .int .u32 0, .int .u8 0, .string ⟨[].toArray⟩, .string ⟨[].toArray⟩, .string ⟨[].toArray⟩, .int .u8 0, .int .u8 0, .string ⟨[].toArray⟩], .bool false, .agg #[.int .u8 0, .string ⟨[].toArray⟩], .bool false] rfl rfl ⟨⟨_, rfl, blk_loadVar (H.get (i := 3) rfl) Try.underlying32 rfl sz_palaver_palaverref27_Client⟩, ⟨_, rfl, blk_loadVar (H.get (i := 2) rfl) Try.underlying47 rfl sz_palaver_api_Letter⟩, rfl, ⟨_, rfl, blk_loadVar (H.get (i := 1) rfl) Try.underlying43 rfl sz_palaver_api_Reply⟩, rfl, trivial⟩) (fun w H => ?_)
    have hq2 : hearR (⟨id, n, L, wt, dst⟩ : Rc) (⟨ls, ld, lk, lbn, lbr, lba, lsl, lno, lv, lvo, lit, ⟨lca, lcb, lck, lcs, lct, lcu, lcz⟩, lco, lte⟩ : Lt) = (⟨id, n, L, wt, dst⟩, lt0, false, (0, []), false) := by
      unfold hearR
      rw [if_pos (by revert hb48; cases forR (⟨id, n, L, wt, dst⟩ : Rc) (⟨ls, ld, lk, lbn, lbr, lba, lsl, lno, lv, lvo, lit, ⟨lca, lcb, lck, lcs, lct, lcu, lcz⟩, lco, lte⟩ : Lt) <;> simp)]
    refine ⟨?_, H.toBelow ⟨(fun g hg => by rw [List.mem_singleton.1 hg]; exact hg6), (fun g hg => by rw [List.mem_singleton.1 hg]; exact hg5), (fun g hg => by rw [List.mem_singleton.1 hg]; exact hg4), (fun g hg => by rw [List.mem_singleton.1 hg]; exact hg3), (fun g hg => by rw [List.mem_singleton.1 hg]; exact hg2), (fun g hg => by rw [List.mem_singleton.1 hg]; exact hg1), trivial⟩⟩
    rw [hq2]
    rfl

set_option maxRecDepth 100000 in
set_option maxHeartbeats 4000000 in
theorem lsame_any (ls ld lk lbn lbr lba lsl lno lca lcb lck lcz lco : Nat) (lv lcs lct lcu lte : List UInt8)  (w : World) : Calls Try.prog 20 #[.agg #[.int .u8 (ls : Int), .int .u8 (ld : Int), .int .u8 (lk : Int), .int .u64 (lbn : Int), .int .u8 (lbr : Int), .int .u64 (lba : Int), .int .u64 (lsl : Int), .int .u8 (lno : Int), .string ⟨lv.toArray⟩, .slice none 0 0, .slice none 0 0, .int .u8 (lca : Int), .int .u32 (lcb : Int), .int .u8 (lck : Int), .string ⟨lcs.toArray⟩, .string ⟨lct.toArray⟩, .string ⟨lcu.toArray⟩, .int .u8 (lcz : Int), .int .u8 (lco : Int), .string ⟨lte.toArray⟩], .agg #[.int .u8 (ls : Int), .int .u8 (ld : Int), .int .u8 (lk : Int), .int .u64 (lbn : Int), .int .u8 (lbr : Int), .int .u64 (lba : Int), .int .u64 (lsl : Int), .int .u8 (lno : Int), .string ⟨lv.toArray⟩, .slice none 0 0, .slice none 0 0, .int .u8 (lca : Int), .int .u32 (lcb : Int), .int .u8 (lck : Int), .string ⟨lcs.toArray⟩, .string ⟨lct.toArray⟩, .string ⟨lcu.toArray⟩, .int .u8 (lcz : Int), .int .u8 (lco : Int), .string ⟨lte.toArray⟩]] w fun e w' => e = .returned (.bool true) ∧ Below w.heap.size w w' := by
  refine sx_enter (n := 24) [.agg #[.int .u8 (ls : Int), .int .u8 (ld : Int), .int .u8 (lk : Int), .int .u64 (lbn : Int), .int .u8 (lbr : Int), .int .u64 (lba : Int), .int .u64 (lsl : Int), .int .u8 (lno : Int), .string ⟨lv.toArray⟩, .slice none 0 0, .slice none 0 0, .int .u8 (lca : Int), .int .u32 (lcb : Int), .int .u8 (lck : Int), .string ⟨lcs.toArray⟩, .string ⟨lct.toArray⟩, .string ⟨lcu.toArray⟩, .int .u8 (lcz : Int), .int .u8 (lco : Int), .string ⟨lte.toArray⟩], .agg #[.int .u8 (ls : Int), .int .u8 (ld : Int), .int .u8 (lk : Int), .int .u64 (lbn : Int), .int .u8 (lbr : Int), .int .u64 (lba : Int), .int .u64 (lsl : Int), .int .u8 (lno : Int), .string ⟨lv.toArray⟩, .slice none 0 0, .slice none 0 0, .int .u8 (lca : Int), .int .u32 (lcb : Int), .int .u8 (lck : Int), .string ⟨lcs.toArray⟩, .string ⟨lct.toArray⟩, .string ⟨lcu.toArray⟩, .int .u8 (lcz : Int), .int .u8 (lco : Int), .string ⟨lte.toArray⟩]] Try.func20 rfl rfl rfl (Hp.start w) ?_
  refine SxC.seq ?_
  refine SxC.region ?_
  refine SxL.new (cs := [.int .u8 (ls : Int), .int .u8 (ld : Int), .int .u8 (lk : Int), .int .u64 (lbn : Int), .int .u8 (lbr : Int), .int .u64 (lba : Int), .int .u64 (lsl : Int), .int .u8 (lno : Int), .string ⟨lv.toArray⟩, .slice none 0 0, .slice none 0 0, .int .u8 (lca : Int), .int .u32 (lcb : Int), .int .u8 (lck : Int), .string ⟨lcs.toArray⟩, .string ⟨lct.toArray⟩, .string ⟨lcu.toArray⟩, .int .u8 (lcz : Int), .int .u8 (lco : Int), .string ⟨lte.toArray⟩]) trivial rfl rfl (fun ρ w E H => ex_box E rfl rfl rfl) fun g1 hg1 => ?_
  refine SxL.new (cs := [.int .u8 (ls : Int), .int .u8 (ld : Int), .int .u8 (lk : Int), .int .u64 (lbn : Int), .int .u8 (lbr : Int), .int .u64 (lba : Int), .int .u64 (lsl : Int), .int .u8 (lno : Int), .string ⟨lv.toArray⟩, .slice none 0 0, .slice none 0 0, .int .u8 (lca : Int), .int .u32 (lcb : Int), .int .u8 (lck : Int), .string ⟨lcs.toArray⟩, .string ⟨lct.toArray⟩, .string ⟨lcu.toArray⟩, .int .u8 (lcz : Int), .int .u8 (lco : Int), .string ⟨lte.toArray⟩]) trivial rfl rfl (fun ρ w E H => ex_box E rfl rfl rfl) fun g2 hg2 => ?_
  refine SxL.val (v := .bool false) trivial rfl rfl (fun ρ w E H => ex_assign E rfl rfl) ?_
  refine SxL.nil ?_
  refine SxN.then_ ?_
  refine SxC.seq ?_
  refine SxC.region ?_
  refine SxL.val (v := .pointer (some ⟨g1, 0, none⟩)) trivial rfl rfl (fun ρ w E H => ex_field E rfl fa_palaver_api_Letter_0 rfl rfl) ?_
  refine SxL.val (v := .int .u8 (ls : Int)) trivial rfl rfl (fun ρ w E H => ex_load1 E (H.get (i := 1) rfl) rfl rfl Try.underlying5 rfl rfl) ?_
  refine SxL.val (v := .pointer (some ⟨g2, 0, none⟩)) trivial rfl rfl (fun ρ w E H => ex_field E rfl fa_palaver_api_Letter_0 rfl rfl) ?_
  refine SxL.val (v := .int .u8 (ls : Int)) trivial rfl rfl (fun ρ w E H => ex_load1 E (H.get (i := 0) rfl) rfl rfl Try.underlying5 rfl rfl) ?_
  refine SxL.val (v := .bool true) trivial rfl rfl (fun ρ w E H => ex_cmp E rfl rfl rfl rfl (by simp [cmpB])) ?_
  refine SxL.val (v := .bool true) trivial rfl rfl (fun ρ w E H => ex_move E rfl rfl) ?_
  refine SxL.val (v := .pointer (some ⟨g1, 1, none⟩)) ⟨_, _, rfl, rfl, rfl⟩ rfl rfl (fun ρ w E H => ex_field E rfl fa_palaver_api_Letter_1 rfl rfl) ?_
  refine SxL.val (v := .int .u8 (ld : Int)) ⟨_, _, rfl, rfl, rfl⟩ rfl rfl (fun ρ w E H => ex_load1 E (H.get (i := 1) rfl) rfl rfl Try.underlying5 rfl rfl) ?_
  refine SxL.val (v := .pointer (some ⟨g2, 1, none⟩)) ⟨_, _, rfl, rfl, rfl⟩ rfl rfl (fun ρ w E H => ex_field E rfl fa_palaver_api_Letter_1 rfl rfl) ?_
  refine SxL.val (v := .int .u8 (ld : Int)) ⟨_, _, rfl, rfl, rfl⟩ rfl rfl (fun ρ w E H => ex_load1 E (H.get (i := 0) rfl) rfl rfl Try.underlying5 rfl rfl) ?_
  refine SxL.val (v := .bool true) ⟨_, _, rfl, rfl, rfl⟩ rfl rfl (fun ρ w E H => ex_cmp E rfl rfl rfl rfl (by simp [cmpB])) ?_
  refine SxL.val (v := .bool true) trivial rfl rfl (fun ρ w E H => ex_pick E rfl (t := true) rfl rfl) ?_
  refine SxL.val (v := .bool true) trivial rfl rfl (fun ρ w E H => ex_move E rfl rfl) ?_
  refine SxL.val (v := .pointer (some ⟨g1, 2, none⟩)) ⟨_, _, rfl, rfl, rfl⟩ rfl rfl (fun ρ w E H => ex_field E rfl fa_palaver_api_Letter_2 rfl rfl) ?_
  refine SxL.val (v := .agg #[.int .u8 (lk : Int), .int .u64 (lbn : Int), .int .u8 (lbr : Int), .int .u64 (lba : Int), .int .u64 (lsl : Int), .int .u8 (lno : Int), .string ⟨lv.toArray⟩, .slice none 0 0, .slice none 0 0, .int .u8 (lca : Int), .int .u32 (lcb : Int), .int .u8 (lck : Int), .string ⟨lcs.toArray⟩, .string ⟨lct.toArray⟩, .string ⟨lcu.toArray⟩, .int .u8 (lcz : Int), .int .u8 (lco : Int), .string ⟨lte.toArray⟩]) ⟨_, _, rfl, rfl, rfl⟩ rfl rfl (fun ρ w E H => ex_load (part := [.int .u8 (lk : Int), .int .u64 (lbn : Int), .int .u8 (lbr : Int), .int .u64 (lba : Int), .int .u64 (lsl : Int), .int .u8 (lno : Int), .string ⟨lv.toArray⟩, .slice none 0 0, .slice none 0 0, .int .u8 (lca : Int), .int .u32 (lcb : Int), .int .u8 (lck : Int), .string ⟨lcs.toArray⟩, .string ⟨lct.toArray⟩, .string ⟨lcu.toArray⟩, .int .u8 (lcz : Int), .int .u8 (lco : Int), .string ⟨lte.toArray⟩]) E (H.get (i := 1) rfl) rfl rfl Try.underlying45 rfl sz_palaver_api_Msg rfl rfl) ?_
  refine SxL.val (v := .pointer (some ⟨g2, 2, none⟩)) ⟨_, _, rfl, rfl, rfl⟩ rfl rfl (fun ρ w E H => ex_field E rfl fa_palaver_api_Letter_2 rfl rfl) ?_
  refine SxL.val (v := .agg #[.int .u8 (lk : Int), .int .u64 (lbn : Int), .int .u8 (lbr : Int), .int .u64 (lba : Int), .int .u64 (lsl : Int), .int .u8 (lno : Int), .string ⟨lv.toArray⟩, .slice none 0 0, .slice none 0 0, .int .u8 (lca : Int), .int .u32 (lcb : Int), .int .u8 (lck : Int), .string ⟨lcs.toArray⟩, .string ⟨lct.toArray⟩, .string ⟨lcu.toArray⟩, .int .u8 (lcz : Int), .int .u8 (lco : Int), .string ⟨lte.toArray⟩]) ⟨_, _, rfl, rfl, rfl⟩ rfl rfl (fun ρ w E H => ex_load (part := [.int .u8 (lk : Int), .int .u64 (lbn : Int), .int .u8 (lbr : Int), .int .u64 (lba : Int), .int .u64 (lsl : Int), .int .u8 (lno : Int), .string ⟨lv.toArray⟩, .slice none 0 0, .slice none 0 0, .int .u8 (lca : Int), .int .u32 (lcb : Int), .int .u8 (lck : Int), .string ⟨lcs.toArray⟩, .string ⟨lct.toArray⟩, .string ⟨lcu.toArray⟩, .int .u8 (lcz : Int), .int .u8 (lco : Int), .string ⟨lte.toArray⟩]) E (H.get (i := 0) rfl) rfl rfl Try.underlying45 rfl sz_palaver_api_Msg rfl rfl) ?_
  refine SxL.callB (v := .bool true) ⟨_, _, rfl, rfl, rfl⟩ rfl rfl (fun ρ w E => ex_call E en_palaver_palaverref18_Same rfl rfl) (fun w H => rsame_any lk lbn lbr lba lsl lno lco lv lte lca lcb lck lcs lct lcu lcz w) ?_
  refine SxL.val (v := .bool true) trivial rfl rfl (fun ρ w E H => ex_pick E rfl (t := true) rfl rfl) ?_
  refine SxL.val (v := .bool true) trivial rfl rfl (fun ρ w E H => ex_assign E rfl rfl) ?_
  refine SxL.nil ?_
  refine SxN.then_ ?_
  refine SxC.ret ?_
  refine SxX.done (.bool true) (fun a w K H => res1 K rfl rfl) (fun w H => ?_)
  exact ⟨rfl, H.toBelow ⟨(fun g hg => by rw [List.mem_singleton.1 hg]; exact hg2), (fun g hg => by rw [List.mem_singleton.1 hg]; exact hg1), trivial⟩⟩
end Go.Proofs.Yteiaiilfekojfaa.Cli
