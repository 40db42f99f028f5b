/- Texts that the proof of NetNil leans on, put together (4 of 4). Conditions: each theorem states its own. -/
import Derived.Test.YteiaiilfekojfaaGreatPkNetNil3
section
set_option linter.unusedVariables false
set_option linter.unusedSimpArgs false
namespace Go.Proofs.YteiaiilfekojfaaGreat.Net
open Go.RowKit Sx Wire DrawInv
open Msg
set_option maxRecDepth 100000 in
set_option maxHeartbeats 4000000 in
theorem wakes_any   (w : World) : Calls Tryz.prog 21 #[] w fun e w' => e = .returned (.bool true) ∧ Below w.heap.size w w' := by
  obtain ⟨sb, hp1, hby0, htk⟩ := ask_put 3 (by decide)
  have hs1 : sendN [] 0 1 (askM 3) = ([⟨0, 1, sb⟩], 0) := by unfold sendN; rw [if_pos (by decide), hp1]; rfl
  have hby1 : ∀ p ∈ [(⟨0, 1, sb⟩ : Pa)], p.bytes.length ≤ 100000 := fun p hp => by rw [List.mem_singleton.1 hp]; exact hby0
  have ht4 : takeN [(⟨0, 1, sb⟩ : Pa)] [] 0 1 0 = (([] : List Pa), ((0, 1, askM 3) : Nat × Nat × Ms), 0) := by
    show (if (takeM sb).2 ≠ 0 then ([(⟨0, 1, sb⟩ : Pa)], ((0, 0, ms0 0) : Nat × Nat × Ms), (takeM sb).2) else (([] : List Pa), ((0, 1, (takeM sb).1) : Nat × Nat × Ms), 0)) = _
    rw [htk, if_neg (by decide)]
  refine sx_enter (n := 84) _ Tryz.func21 rfl rfl rfl (Hp.start w) ?_
  refine SxC.seq (SxC.region ?_)
  refine SxL.val trivial rfl rfl (fun ρ w E H => ex_assign E rfl rfl) ?_
  refine SxL.nil (SxN.then_ (SxC.seq (SxC.region ?_)))
  refine SxL.call (σ := Nat × Nat) (fun s => .pointer (some ⟨s.1, 0, none⟩)) (fun s => w.heap.size ≤ s.1 ∧ w.heap.size ≤ s.2) (fun s => _) trivial rfl rfl (fun ρ w E => ex_call E en_palaver_net_New rfl rfl) call_newN fun s hgn => ?_
  obtain ⟨gn, gm⟩ := s
  dsimp only at hgn ⊢
  refine SxL.val trivial rfl rfl (fun ρ w E H => ex_assign E rfl rfl) ?_
  refine SxL.nil (SxN.then_ (SxC.seq (SxC.region ?_)))
  refine SxL.val trivial rfl rfl (fun ρ w E H => ex_move E rfl rfl) ?_
  refine SxL.callB (v := .agg #[.int .u8 10, .int .u64 0, .int .u8 0, .int .u64 0, .int .u64 3, .int .u8 0, .string ⟨[].toArray⟩, .slice none 0 0, .slice none 0 0, .int .u8 0, .int .u32 0, .int .u8 0, .string ⟨[].toArray⟩, .string ⟨[].toArray⟩, .string ⟨[].toArray⟩, .int .u8 0, .int .u8 0, .string ⟨[].toArray⟩]) trivial rfl rfl (fun ρ w E => ex_call E en_palaver_palaverlaw26_ask rfl rfl) (fun w H => ask_any 3 w) ?_
  refine SxL.val trivial rfl rfl (fun ρ w E H => ex_build (cs := [.int .u8 0, .int .u8 1, .int .u8 10, .int .u64 0, .int .u8 0, .int .u64 0, .int .u64 3, .int .u8 0, .string ⟨[].toArray⟩, .slice none 0 0, .slice none 0 0, .int .u8 0, .int .u32 0, .int .u8 0, .string ⟨[].toArray⟩, .string ⟨[].toArray⟩, .string ⟨[].toArray⟩, .int .u8 0, .int .u8 0, .string ⟨[].toArray⟩]) E rfl rfl (by kernel_rfl)) ?_
  refine SxL.call (σ := Value) (fun _ => .int .i64 0) (fun s => OwnIn w [] s) (fun s => _) trivial rfl rfl (fun ρ w E => ex_call E en_palaver_net_Net_Send rfl rfl) (callNet (i := 0) (bag' := [(⟨0, 1, sb⟩ : Pa)]) (M' := ([] : CutM)) rfl (fun b hb => by simp [Value.ownBlock] at hb) (fun W H => (send_any w.heap.size gn gm _ [] [] 0 1 (askM 3) none none 0 0 W (H.get (i := 0) rfl) (by simp) H.os.size (ask_fits 3 (by decide)) ((ask_lim 3).small (ask_fits 3 (by decide))) (none_rows W _ rfl rfl)).mono fun _ _ h => by rw [hs1] at h; exact h)) fun V17 hV17 => ?_
  refine SxL.val trivial rfl rfl (fun ρ w E H => ex_assign E rfl rfl) ?_
  refine SxL.nil (SxN.then_ (SxC.seq (SxC.region ?_)))
  refine SxL.val trivial rfl rfl (fun ρ w E H => ex_move E rfl rfl) ?_
  refine SxL.call (σ := Value × Value × Value) (fun q => .tuple #[.agg (.int .u8 ((([(⟨0, 1, sb⟩ : Pa)], ((0, 0, ms0 0) : Nat × Nat × Ms), 11)).2.1.1 : Int) :: .int .u8 ((([(⟨0, 1, sb⟩ : Pa)], ((0, 0, ms0 0) : Nat × Nat × Ms), 11)).2.1.2.1 : Int) :: msL (([(⟨0, 1, sb⟩ : Pa)], ((0, 0, ms0 0) : Nat × Nat × Ms), 11)).2.1.2.2 q.2.1 q.2.2).toArray, .int .i64 ((([(⟨0, 1, sb⟩ : Pa)], ((0, 0, ms0 0) : Nat × Nat × Ms), 11)).2.2 : Int)]) (fun q => OwnIn w [] q.1 ∧ OwnIn w [] q.2.1 ∧ OwnIn w [] q.2.2) (fun q => _) trivial rfl rfl (fun ρ w E => ex_call E en_palaver_net_Net_Take rfl rfl) (call_takeN (i := 0) (r := ([(⟨0, 1, sb⟩ : Pa)], ((0, 0, ms0 0) : Nat × Nat × Ms), 11)) rfl hV17 (by simp) (fun p hp => by cases hp) hby1 rfl) fun q hq20 => ?_
  obtain ⟨V20, U20, I20⟩ := q
  dsimp only at hq20
  refine SxL.with (fun W H => own_is_slice (H.get (i := 0) rfl)) ?_
  rintro ⟨UA20, uk20, rfl⟩
  refine SxL.with (fun W H => own_is_slice (H.get (i := 1) rfl)) ?_
  rintro ⟨IA20, ik20, rfl⟩
  refine SxL.val trivial rfl rfl (fun ρ w E H => ex_move E rfl rfl) ?_
  refine SxL.val trivial rfl rfl (fun ρ w E H => ex_extract E rfl rfl rfl) ?_
  refine SxL.val (v := .int .i64 11) trivial rfl rfl (fun ρ w E H => ex_extract E rfl rfl rfl) ?_
  refine SxL.new (cs := [.int .u8 0, .int .u8 0, .int .u8 0, .int .u64 0, .int .u8 0, .int .u64 0, .int .u64 0, .int .u8 0, .string ⟨[].toArray⟩, .slice none 0 0, .slice none 0 0, .int .u8 0, .int .u32 0, .int .u8 0, .string ⟨[].toArray⟩, .string ⟨[].toArray⟩, .string ⟨[].toArray⟩, .int .u8 0, .int .u8 0, .string ⟨[].toArray⟩]) trivial rfl rfl (fun ρ w E H => ex_alloc rfl zr_palaver_api_Letter rfl) fun g1 hg1 => ?_
  refine SxL.storeX (i := 0) [.int .u8 0, .int .u8 0, .int .u8 0, .int .u64 0, .int .u8 0, .int .u64 0, .int .u64 0, .int .u8 0, .string ⟨[].toArray⟩, .slice UA20 0 uk20, .slice IA20 0 ik20, .int .u8 0, .int .u32 0, .int .u8 0, .string ⟨[].toArray⟩, .string ⟨[].toArray⟩, .string ⟨[].toArray⟩, .int .u8 0, .int .u8 0, .string ⟨[].toArray⟩] trivial rfl rfl rfl rfl rfl sz_palaver_api_Letter rfl rfl rfl (putL_all _ _ rfl) ?_
  refine SxL.val trivial rfl rfl (fun ρ w E H => ex_assign E rfl rfl) ?_
  refine SxL.nil (SxN.then_ (SxC.seq (SxC.region ?_)))
  refine SxL.val trivial rfl rfl (fun ρ w E H => ex_move E rfl rfl) ?_
  refine SxL.call (σ := Value × Value × Value) (fun q => .tuple #[.agg (.int .u8 ((([(⟨0, 1, sb⟩ : Pa)], ((0, 0, ms0 0) : Nat × Nat × Ms), 11)).2.1.1 : Int) :: .int .u8 ((([(⟨0, 1, sb⟩ : Pa)], ((0, 0, ms0 0) : Nat × Nat × Ms), 11)).2.1.2.1 : Int) :: msL (([(⟨0, 1, sb⟩ : Pa)], ((0, 0, ms0 0) : Nat × Nat × Ms), 11)).2.1.2.2 q.2.1 q.2.2).toArray, .int .i64 ((([(⟨0, 1, sb⟩ : Pa)], ((0, 0, ms0 0) : Nat × Nat × Ms), 11)).2.2 : Int)]) (fun q => OwnIn w [] q.1 ∧ OwnIn w [] q.2.1 ∧ OwnIn w [] q.2.2) (fun q => _) trivial rfl rfl (fun ρ w E => ex_call E en_palaver_net_Net_Take rfl rfl) (call_takeN (i := 3) (r := ([(⟨0, 1, sb⟩ : Pa)], ((0, 0, ms0 0) : Nat × Nat × Ms), 11)) rfl hq20.1 (by simp) (fun p hp => by cases hp) hby1 rfl) fun q hq25 => ?_
  obtain ⟨V25, U25, I25⟩ := q
  dsimp only at hq25
  refine SxL.with (fun W H => own_is_slice (H.get (i := 0) rfl)) ?_
  rintro ⟨UA25, uk25, rfl⟩
  refine SxL.with (fun W H => own_is_slice (H.get (i := 1) rfl)) ?_
  rintro ⟨IA25, ik25, rfl⟩
  refine SxL.val trivial rfl rfl (fun ρ w E H => ex_move E rfl rfl) ?_
  refine SxL.val trivial rfl rfl (fun ρ w E H => ex_extract E rfl rfl rfl) ?_
  refine SxL.val (v := .int .i64 11) trivial rfl rfl (fun ρ w E H => ex_extract E rfl rfl rfl) ?_
  refine SxL.new (cs := [.int .u8 0, .int .u8 0, .int .u8 0, .int .u64 0, .int .u8 0, .int .u64 0, .int .u64 0, .int .u8 0, .string ⟨[].toArray⟩, .slice none 0 0, .slice none 0 0, .int .u8 0, .int .u32 0, .int .u8 0, .string ⟨[].toArray⟩, .string ⟨[].toArray⟩, .string ⟨[].toArray⟩, .int .u8 0, .int .u8 0, .string ⟨[].toArray⟩]) trivial rfl rfl (fun ρ w E H => ex_alloc rfl zr_palaver_api_Letter rfl) fun g2 hg2 => ?_
  refine SxL.storeX (i := 0) [.int .u8 0, .int .u8 0, .int .u8 0, .int .u64 0, .int .u8 0, .int .u64 0, .int .u64 0, .int .u8 0, .string ⟨[].toArray⟩, .slice UA25 0 uk25, .slice IA25 0 ik25, .int .u8 0, .int .u32 0, .int .u8 0, .string ⟨[].toArray⟩, .string ⟨[].toArray⟩, .string ⟨[].toArray⟩, .int .u8 0, .int .u8 0, .string ⟨[].toArray⟩] trivial rfl rfl rfl rfl rfl sz_palaver_api_Letter rfl rfl rfl (putL_all _ _ rfl) ?_
  refine SxL.val trivial rfl rfl (fun ρ w E H => ex_assign E rfl rfl) ?_
  refine SxL.nil (SxN.then_ (SxC.seq (SxC.region ?_)))
  refine SxL.val trivial rfl rfl (fun ρ w E H => ex_move E rfl rfl) ?_
  refine SxL.call (σ := Value) (fun _ => .int .i64 0) (fun s => OwnIn w [] s) (fun s => _) trivial rfl rfl (fun ρ w E => ex_call E en_palaver_net_Net_Cut rfl rfl) (callNet (i := 6) (bag' := [(⟨0, 1, sb⟩ : Pa)]) (M' := [((0, 1), Value.bool true)]) rfl hq25.1 (fun W H => (cut_any _ _ _ _ _ _ 1 0 W (H.get (i := 6) rfl)).mono fun _ _ h => h)) fun V29 hV29 => ?_
  refine SxL.val trivial rfl rfl (fun ρ w E H => ex_assign E rfl rfl) ?_
  refine SxL.nil (SxN.then_ (SxC.seq (SxC.region ?_)))
  refine SxL.val trivial rfl rfl (fun ρ w E H => ex_move E rfl rfl) ?_
  refine SxL.call (σ := Value × Value × Value) (fun q => .tuple #[.agg (.int .u8 ((([(⟨0, 1, sb⟩ : Pa)], ((0, 0, ms0 0) : Nat × Nat × Ms), 13)).2.1.1 : Int) :: .int .u8 ((([(⟨0, 1, sb⟩ : Pa)], ((0, 0, ms0 0) : Nat × Nat × Ms), 13)).2.1.2.1 : Int) :: msL (([(⟨0, 1, sb⟩ : Pa)], ((0, 0, ms0 0) : Nat × Nat × Ms), 13)).2.1.2.2 q.2.1 q.2.2).toArray, .int .i64 ((([(⟨0, 1, sb⟩ : Pa)], ((0, 0, ms0 0) : Nat × Nat × Ms), 13)).2.2 : Int)]) (fun q => OwnIn w [] q.1 ∧ OwnIn w [] q.2.1 ∧ OwnIn w [] q.2.2) (fun q => _) trivial rfl rfl (fun ρ w E => ex_call E en_palaver_net_Net_Take rfl rfl) (call_takeN (i := 6) (r := ([(⟨0, 1, sb⟩ : Pa)], ((0, 0, ms0 0) : Nat × Nat × Ms), 13)) rfl hV29 (by simp) (fun p hp => by rw [List.mem_singleton.1 hp]) hby1 rfl) fun q hq32 => ?_
  obtain ⟨V32, U32, I32⟩ := q
  dsimp only at hq32
  refine SxL.with (fun W H => own_is_slice (H.get (i := 0) rfl)) ?_
  rintro ⟨UA32, uk32, rfl⟩
  refine SxL.with (fun W H => own_is_slice (H.get (i := 1) rfl)) ?_
  rintro ⟨IA32, ik32, rfl⟩
  refine SxL.val trivial rfl rfl (fun ρ w E H => ex_move E rfl rfl) ?_
  refine SxL.val trivial rfl rfl (fun ρ w E H => ex_extract E rfl rfl rfl) ?_
  refine SxL.val (v := .int .i64 13) trivial rfl rfl (fun ρ w E H => ex_extract E rfl rfl rfl) ?_
  refine SxL.new (cs := [.int .u8 0, .int .u8 0, .int .u8 0, .int .u64 0, .int .u8 0, .int .u64 0, .int .u64 0, .int .u8 0, .string ⟨[].toArray⟩, .slice none 0 0, .slice none 0 0, .int .u8 0, .int .u32 0, .int .u8 0, .string ⟨[].toArray⟩, .string ⟨[].toArray⟩, .string ⟨[].toArray⟩, .int .u8 0, .int .u8 0, .string ⟨[].toArray⟩]) trivial rfl rfl (fun ρ w E H => ex_alloc rfl zr_palaver_api_Letter rfl) fun g3 hg3 => ?_
  refine SxL.storeX (i := 0) [.int .u8 0, .int .u8 0, .int .u8 0, .int .u64 0, .int .u8 0, .int .u64 0, .int .u64 0, .int .u8 0, .string ⟨[].toArray⟩, .slice UA32 0 uk32, .slice IA32 0 ik32, .int .u8 0, .int .u32 0, .int .u8 0, .string ⟨[].toArray⟩, .string ⟨[].toArray⟩, .string ⟨[].toArray⟩, .int .u8 0, .int .u8 0, .string ⟨[].toArray⟩] trivial rfl rfl rfl rfl rfl sz_palaver_api_Letter rfl rfl rfl (putL_all _ _ rfl) ?_
  refine SxL.val trivial rfl rfl (fun ρ w E H => ex_assign E rfl rfl) ?_
  refine SxL.nil (SxN.then_ (SxC.seq (SxC.region ?_)))
  refine SxL.val trivial rfl rfl (fun ρ w E H => ex_move E rfl rfl) ?_
  refine SxL.call (σ := Value) (fun _ => .int .i64 0) (fun s => OwnIn w [] s) (fun s => _) trivial rfl rfl (fun ρ w E => ex_call E en_palaver_net_Net_Heal rfl rfl) (callNet (i := 9) (bag' := [(⟨0, 1, sb⟩ : Pa)]) (M' := ([] : CutM)) rfl hq32.1 (fun W H => (heal_any _ _ _ _ _ _ W (H.get (i := 9) rfl)).mono fun _ _ h => h)) fun V36 hV36 => ?_
  refine SxL.val trivial rfl rfl (fun ρ w E H => ex_assign E rfl rfl) ?_
  refine SxL.nil (SxN.then_ (SxC.seq (SxC.region ?_)))
  refine SxL.val trivial rfl rfl (fun ρ w E H => ex_move E rfl rfl) ?_
  refine SxL.call (σ := Value × Value × Value) (fun q => .tuple #[.agg (.int .u8 (((([] : List Pa), ((0, 1, askM 3) : Nat × Nat × Ms), 0)).2.1.1 : Int) :: .int .u8 (((([] : List Pa), ((0, 1, askM 3) : Nat × Nat × Ms), 0)).2.1.2.1 : Int) :: msL ((([] : List Pa), ((0, 1, askM 3) : Nat × Nat × Ms), 0)).2.1.2.2 q.2.1 q.2.2).toArray, .int .i64 (((([] : List Pa), ((0, 1, askM 3) : Nat × Nat × Ms), 0)).2.2 : Int)]) (fun q => OwnIn w [] q.1 ∧ OwnIn w [] q.2.1 ∧ OwnIn w [] q.2.2) (fun q => _) trivial rfl rfl (fun ρ w E => ex_call E en_palaver_net_Net_Take rfl rfl) (call_takeN (i := 9) (r := (([] : List Pa), ((0, 1, askM 3) : Nat × Nat × Ms), 0)) rfl hV36 (by simp) (fun p hp => by cases hp) hby1 ht4) fun q hq39 => ?_
  obtain ⟨V39, U39, I39⟩ := q
  dsimp only at hq39
  refine SxL.with (fun W H => own_is_slice (H.get (i := 0) rfl)) ?_
  rintro ⟨UA39, uk39, rfl⟩
  refine SxL.with (fun W H => own_is_slice (H.get (i := 1) rfl)) ?_
  rintro ⟨IA39, ik39, rfl⟩
  refine SxL.val trivial rfl rfl (fun ρ w E H => ex_move E rfl rfl) ?_
  refine SxL.val trivial rfl rfl (fun ρ w E H => ex_extract E rfl rfl rfl) ?_
  refine SxL.val (v := .int .i64 0) trivial rfl rfl (fun ρ w E H => ex_extract E rfl rfl rfl) ?_
  refine SxL.new (cs := [.int .u8 0, .int .u8 0, .int .u8 0, .int .u64 0, .int .u8 0, .int .u64 0, .int .u64 0, .int .u8 0, .string ⟨[].toArray⟩, .slice none 0 0, .slice none 0 0, .int .u8 0, .int .u32 0, .int .u8 0, .string ⟨[].toArray⟩, .string ⟨[].toArray⟩, .string ⟨[].toArray⟩, .int .u8 0, .int .u8 0, .string ⟨[].toArray⟩]) trivial rfl rfl (fun ρ w E H => ex_alloc rfl zr_palaver_api_Letter rfl) fun g4 hg4 => ?_
  refine SxL.storeX (i := 0) [.int .u8 0, .int .u8 1, .int .u8 10, .int .u64 0, .int .u8 0, .int .u64 0, .int .u64 3, .int .u8 0, .string ⟨[].toArray⟩, .slice UA39 0 uk39, .slice IA39 0 ik39, .int .u8 0, .int .u32 0, .int .u8 0, .string ⟨[].toArray⟩, .string ⟨[].toArray⟩, .string ⟨[].toArray⟩, .int .u8 0, .int .u8 0, .string ⟨[].toArray⟩] trivial rfl rfl rfl rfl rfl sz_palaver_api_Letter rfl rfl rfl (putL_all _ _ rfl) ?_
  refine SxL.val trivial rfl rfl (fun ρ w E H => ex_assign E rfl rfl) ?_
  refine SxL.nil (SxN.then_ (SxC.seq ?_))
  refine SxC.drawnK [] [0, 1, 2, 3, 4, 5, 6, 7, 8, 9, 10, 11, 12] (by kernel_rfl) rfl ⟨(fun g hg => by rw [List.mem_singleton.1 hg]; exact .inr hg4), (fun g hg => .inr (hq39.2.1.fresh g hg)), (fun g hg => .inr (hq39.2.2.fresh g hg)), (fun g hg => by rw [List.mem_singleton.1 hg]; exact .inr hg3), (fun g hg => .inr (hq32.2.1.fresh g hg)), (fun g hg => .inr (hq32.2.2.fresh g hg)), (fun g hg => by rw [List.mem_singleton.1 hg]; exact .inr hg2), (fun g hg => .inr (hq25.2.1.fresh g hg)), (fun g hg => .inr (hq25.2.2.fresh g hg)), (fun g hg => by rw [List.mem_singleton.1 hg]; exact .inr hg1), (fun g hg => .inr (hq20.2.1.fresh g hg)), (fun g hg => .inr (hq20.2.2.fresh g hg)), (fun g hg => .inr ((netF_fresh hgn.1 hgn.2 hq39.1) g hg)), trivial⟩ ?_
  refine SxA.take (i := 0) rfl (by kernel_rfl) (by kernel_rfl) (by kernel_rfl) rfl rfl (fun _ _ _ h => h) trivial (fun ρ w E H => ex_move E rfl rfl) ?_
  refine SxA.take (i := 1) (v := .bool true) rfl (by kernel_rfl) (by kernel_rfl) (by kernel_rfl) rfl rfl (fun _ _ _ h => h) trivial (fun ρ w E H => ex_cmp E rfl rfl rfl rfl (by decide)) ?_
  refine SxA.take (i := 2) rfl (by kernel_rfl) (by kernel_rfl) (by kernel_rfl) rfl rfl (fun _ _ _ h => h) trivial (fun ρ w E H => ex_move E rfl rfl) ?_
  refine SxA.take (i := 3) rfl (by kernel_rfl) (by kernel_rfl) (by kernel_rfl) rfl rfl (fun _ _ _ h => h) ⟨_, _, rfl, rfl, rfl⟩ (fun ρ w E H => ex_move E rfl rfl) ?_
  refine SxA.take (i := 4) (v := .bool true) rfl (by kernel_rfl) (by kernel_rfl) (by kernel_rfl) rfl rfl (fun _ _ _ h => h) ⟨_, _, rfl, rfl, rfl⟩ (fun ρ w E H => ex_cmp E rfl rfl rfl rfl (by decide)) ?_
  refine SxA.take (i := 5) rfl (by kernel_rfl) (by kernel_rfl) (by kernel_rfl) rfl rfl (fun _ _ _ h => h) trivial (fun ρ w E H => ex_pick E rfl (t := true) rfl rfl) ?_
  refine SxA.take (i := 6) rfl (by kernel_rfl) (by kernel_rfl) (by kernel_rfl) rfl rfl (fun _ _ _ h => h) trivial (fun ρ w E H => ex_move E rfl rfl) ?_
  refine SxA.take (i := 7) rfl (by kernel_rfl) (by kernel_rfl) (by kernel_rfl) rfl rfl (fun _ _ _ h => h) ⟨_, _, rfl, rfl, rfl⟩ (fun ρ w E H => ex_move E rfl rfl) ?_
  refine SxA.take (i := 8) (v := .bool true) rfl (by kernel_rfl) (by kernel_rfl) (by kernel_rfl) rfl rfl (fun _ _ _ h => h) ⟨_, _, rfl, rfl, rfl⟩ (fun ρ w E H => ex_cmp E rfl rfl rfl rfl (by decide)) ?_
  refine SxA.take (i := 9) rfl (by kernel_rfl) (by kernel_rfl) (by kernel_rfl) rfl rfl (fun _ _ _ h => h) trivial (fun ρ w E H => ex_pick E rfl (t := true) rfl rfl) ?_
  refine SxA.take (i := 10) rfl (by kernel_rfl) (by kernel_rfl) (by kernel_rfl) rfl rfl (fun _ _ _ h => h) trivial (fun ρ w E H => ex_move E rfl rfl) ?_
  refine SxA.take (i := 11) rfl (by kernel_rfl) (by kernel_rfl) (by kernel_rfl) rfl rfl (fun _ _ _ h => h) ⟨_, _, rfl, rfl, rfl⟩ (fun ρ w E H => ex_move E rfl rfl) ?_
  refine SxA.take (i := 12) (v := .bool true) rfl (by kernel_rfl) (by kernel_rfl) (by kernel_rfl) rfl rfl (fun _ _ _ h => h) ⟨_, _, rfl, rfl, rfl⟩ (fun ρ w E H => ex_cmp E rfl rfl rfl rfl (by decide)) ?_
  refine SxA.take (i := 13) rfl (by kernel_rfl) (by kernel_rfl) (by kernel_rfl) rfl rfl (fun _ _ _ h => h) trivial (fun ρ w E H => ex_pick E rfl (t := true) rfl rfl) ?_
  refine SxA.take (i := 14) rfl (by kernel_rfl) (by kernel_rfl) (by kernel_rfl) rfl rfl (fun _ _ _ h => h) trivial (fun ρ w E H => ex_move E rfl rfl) ?_
  refine SxA.take (i := 15) rfl (by kernel_rfl) (by kernel_rfl) (by kernel_rfl) rfl rfl (fun _ _ _ h => h) ⟨_, _, rfl, rfl, rfl⟩ (fun ρ w E H => ex_move E rfl rfl) ?_
  refine SxA.take (i := 16) (v := .bool true) rfl (by kernel_rfl) (by kernel_rfl) (by kernel_rfl) rfl rfl (fun _ _ _ h => h) ⟨_, _, rfl, rfl, rfl⟩ (fun ρ w E H => ex_cmp E rfl rfl rfl rfl (by decide)) ?_
  refine SxA.take (i := 17) rfl (by kernel_rfl) (by kernel_rfl) (by kernel_rfl) rfl rfl (fun _ _ _ h => h) trivial (fun ρ w E H => ex_pick E rfl (t := true) rfl rfl) ?_
  refine SxA.take (i := 18) rfl (by kernel_rfl) (by kernel_rfl) (by kernel_rfl) rfl rfl (fun _ _ _ h => h) trivial (fun ρ w E H => ex_move E rfl rfl) ?_
  refine SxA.take (i := 19) rfl (by kernel_rfl) (by kernel_rfl) (by kernel_rfl) rfl rfl (fun _ _ _ h => h) ⟨_, _, rfl, rfl, rfl⟩ (fun ρ w E H => ex_move E rfl rfl) ?_
  refine SxA.take (i := 20) (v := .bool true) rfl (by kernel_rfl) (by kernel_rfl) (by kernel_rfl) rfl rfl (fun _ _ _ h => h) ⟨_, _, rfl, rfl, rfl⟩ (fun ρ w E H => ex_cmp E rfl rfl rfl rfl (by decide)) ?_
  refine SxA.take (i := 21) rfl (by kernel_rfl) (by kernel_rfl) (by kernel_rfl) rfl rfl (fun _ _ _ h => h) trivial (fun ρ w E H => ex_pick E rfl (t := true) rfl rfl) ?_
  refine SxA.take (i := 22) rfl (by kernel_rfl) (by kernel_rfl) (by kernel_rfl) rfl rfl (fun _ _ _ h => h) trivial (fun ρ w E H => ex_move E rfl rfl) ?_
  refine SxA.take (i := 23) rfl (by kernel_rfl) (by kernel_rfl) (by kernel_rfl) rfl rfl (fun _ _ _ h => h) ⟨_, _, rfl, rfl, rfl⟩ (fun ρ w E H => ex_move E rfl rfl) ?_
  refine SxA.take (i := 24) (v := .bool true) rfl (by kernel_rfl) (by kernel_rfl) (by kernel_rfl) rfl rfl (fun _ _ _ h => h) ⟨_, _, rfl, rfl, rfl⟩ (fun ρ w E H => ex_cmp E rfl rfl rfl rfl (by decide)) ?_
  refine SxA.take (i := 25) rfl (by kernel_rfl) (by kernel_rfl) (by kernel_rfl) rfl rfl (fun _ _ _ h => h) trivial (fun ρ w E H => ex_pick E rfl (t := true) rfl rfl) ?_
  refine SxA.take (i := 26) rfl (by kernel_rfl) (by kernel_rfl) (by kernel_rfl) rfl rfl (fun _ _ _ h => h) trivial (fun ρ w E H => ex_move E rfl rfl) ?_
  refine SxA.take (i := 27) (v := .pointer (some ⟨g4, 1, none⟩)) rfl (by kernel_rfl) (by kernel_rfl) (by kernel_rfl) rfl rfl (fun _ _ _ h => h) ⟨_, _, rfl, rfl, rfl⟩ (fun ρ w E H => ex_field E rfl fa_palaver_api_Letter_1 rfl rfl) ?_
  refine SxA.take (i := 28) rfl (by kernel_rfl) (by kernel_rfl) (by kernel_rfl) rfl rfl (fun _ _ _ h => h) ⟨_, _, rfl, rfl, rfl⟩ (fun ρ w E H => ex_load1 E (H.get (i := 0) rfl) rfl rfl Tryz.underlying5 rfl rfl) ?_
  refine SxA.take (i := 29) (v := .bool true) rfl (by kernel_rfl) (by kernel_rfl) (by kernel_rfl) rfl rfl (fun _ _ _ h => h) ⟨_, _, rfl, rfl, rfl⟩ (fun ρ w E H => ex_cmp E rfl rfl rfl rfl (by decide)) ?_
  refine SxA.take (i := 30) rfl (by kernel_rfl) (by kernel_rfl) (by kernel_rfl) rfl rfl (fun _ _ _ h => h) trivial (fun ρ w E H => ex_pick E rfl (t := true) rfl rfl) ?_
  refine SxA.take (i := 31) rfl (by kernel_rfl) (by kernel_rfl) (by kernel_rfl) rfl rfl (fun _ _ _ h => h) trivial (fun ρ w E H => ex_move E rfl rfl) ?_
  refine SxA.take (i := 32) (v := .pointer (some ⟨g4, 2, none⟩)) rfl (by kernel_rfl) (by kernel_rfl) (by kernel_rfl) rfl rfl (fun _ _ _ h => h) ⟨_, _, rfl, rfl, rfl⟩ (fun ρ w E H => ex_field E rfl fa_palaver_api_Letter_2 rfl rfl) ?_
  refine SxA.take (i := 33) rfl (by kernel_rfl) (by kernel_rfl) (by kernel_rfl) rfl rfl (fun _ _ _ h => h) ⟨_, _, rfl, rfl, rfl⟩ (fun ρ w E H => ex_load (part := [.int .u8 10, .int .u64 0, .int .u8 0, .int .u64 0, .int .u64 3, .int .u8 0, .string ⟨[].toArray⟩, .slice UA39 0 uk39, .slice IA39 0 ik39, .int .u8 0, .int .u32 0, .int .u8 0, .string ⟨[].toArray⟩, .string ⟨[].toArray⟩, .string ⟨[].toArray⟩, .int .u8 0, .int .u8 0, .string ⟨[].toArray⟩]) E (H.get (i := 0) rfl) rfl rfl Tryz.underlying33 rfl sz_palaver_api_Msg rfl rfl) ?_
  refine SxA.ready [34] (by kernel_rfl) (by simp) ⟨?_, trivial⟩
  refine SxO.callB (v := .agg #[.int .u8 10, .int .u64 0, .int .u8 0, .int .u64 0, .int .u64 3, .int .u8 0, .string ⟨[].toArray⟩, .slice none 0 0, .slice none 0 0, .int .u8 0, .int .u32 0, .int .u8 0, .string ⟨[].toArray⟩, .string ⟨[].toArray⟩, .string ⟨[].toArray⟩, .int .u8 0, .int .u8 0, .string ⟨[].toArray⟩]) rfl ⟨_, _, rfl, rfl, rfl⟩ rfl rfl (fun ρ w E => ex_call E en_palaver_palaverlaw26_ask rfl rfl) (fun w H => ask_any 3 w) (fun w H => H.ks [] [0, 1, 2, 3, 4, 5, 6, 7, 8, 9, 10, 11, 12] rfl ⟨(fun g hg => by rw [List.mem_singleton.1 hg]; exact .inr hg4), (fun g hg => .inr (hq39.2.1.fresh g hg)), (fun g hg => .inr (hq39.2.2.fresh g hg)), (fun g hg => by rw [List.mem_singleton.1 hg]; exact .inr hg3), (fun g hg => .inr (hq32.2.1.fresh g hg)), (fun g hg => .inr (hq32.2.2.fresh g hg)), (fun g hg => by rw [List.mem_singleton.1 hg]; exact .inr hg2), (fun g hg => .inr (hq25.2.1.fresh g hg)), (fun g hg => .inr (hq25.2.2.fresh g hg)), (fun g hg => by rw [List.mem_singleton.1 hg]; exact .inr hg1), (fun g hg => .inr (hq20.2.1.fresh g hg)), (fun g hg => .inr (hq20.2.2.fresh g hg)), (fun g hg => .inr ((netF_fresh hgn.1 hgn.2 hq39.1) g hg)), trivial⟩) ?_
  refine SxA.ready [35] (by kernel_rfl) (by simp) ⟨?_, trivial⟩
  refine SxO.callB (v := .bool true) rfl ⟨_, _, rfl, rfl, rfl⟩ rfl rfl (fun ρ w E => ex_call E en_palaver_palaverref18_Same rfl rfl) (fun w H => (rsame_any (askM 3) (askM 3) UA39 IA39 none none uk39 ik39 0 0 w ⟨vrows (H.get (i := 1) rfl), irows (H.get (i := 2) rfl)⟩ (none_rows w _ rfl rfl) (by decide) (by decide)).mono fun _ _ h => ⟨by rw [h.1]; simp, h.2⟩) (fun w H => H.ks [] [0, 1, 2, 3, 4, 5, 6, 7, 8, 9, 10, 11, 12] rfl ⟨(fun g hg => by rw [List.mem_singleton.1 hg]; exact .inr hg4), (fun g hg => .inr (hq39.2.1.fresh g hg)), (fun g hg => .inr (hq39.2.2.fresh g hg)), (fun g hg => by rw [List.mem_singleton.1 hg]; exact .inr hg3), (fun g hg => .inr (hq32.2.1.fresh g hg)), (fun g hg => .inr (hq32.2.2.fresh g hg)), (fun g hg => by rw [List.mem_singleton.1 hg]; exact .inr hg2), (fun g hg => .inr (hq25.2.1.fresh g hg)), (fun g hg => .inr (hq25.2.2.fresh g hg)), (fun g hg => by rw [List.mem_singleton.1 hg]; exact .inr hg1), (fun g hg => .inr (hq20.2.1.fresh g hg)), (fun g hg => .inr (hq20.2.2.fresh g hg)), (fun g hg => .inr ((netF_fresh hgn.1 hgn.2 hq39.1) g hg)), trivial⟩) ?_
  refine SxA.take (i := 36) rfl (by kernel_rfl) (by kernel_rfl) (by kernel_rfl) rfl rfl (fun _ _ _ h => h) trivial (fun ρ w E H => ex_pick E rfl (t := true) rfl rfl) ?_
  refine SxA.take (i := 37) rfl (by kernel_rfl) (by kernel_rfl) (by kernel_rfl) rfl rfl (fun _ _ _ h => h) trivial (fun ρ w E H => ex_move E rfl rfl) ?_
  refine SxA.take (i := 38) rfl (by kernel_rfl) (by kernel_rfl) (by kernel_rfl) rfl rfl (fun _ _ _ h => h) ⟨_, _, rfl, rfl, rfl⟩ (fun ρ w E H => ex_move E rfl rfl) ?_
  refine SxA.ready [39] (by kernel_rfl) (by simp) ⟨?_, trivial⟩
  refine SxO.callB (v := .int .i64 0) rfl ⟨_, _, rfl, rfl, rfl⟩ rfl rfl (fun ρ w E => ex_call E en_palaver_net_Net_Len rfl rfl) (fun w H => len_any _ _ _ _ ([] : List Pa) _ w (H.get (i := 12) rfl)) (fun w H => H.ks [] [0, 1, 2, 3, 4, 5, 6, 7, 8, 9, 10, 11, 12] rfl ⟨(fun g hg => by rw [List.mem_singleton.1 hg]; exact .inr hg4), (fun g hg => .inr (hq39.2.1.fresh g hg)), (fun g hg => .inr (hq39.2.2.fresh g hg)), (fun g hg => by rw [List.mem_singleton.1 hg]; exact .inr hg3), (fun g hg => .inr (hq32.2.1.fresh g hg)), (fun g hg => .inr (hq32.2.2.fresh g hg)), (fun g hg => by rw [List.mem_singleton.1 hg]; exact .inr hg2), (fun g hg => .inr (hq25.2.1.fresh g hg)), (fun g hg => .inr (hq25.2.2.fresh g hg)), (fun g hg => by rw [List.mem_singleton.1 hg]; exact .inr hg1), (fun g hg => .inr (hq20.2.1.fresh g hg)), (fun g hg => .inr (hq20.2.2.fresh g hg)), (fun g hg => .inr ((netF_fresh hgn.1 hgn.2 hq39.1) g hg)), trivial⟩) ?_
  refine SxA.take (i := 40) (v := .bool true) rfl (by kernel_rfl) (by kernel_rfl) (by kernel_rfl) rfl rfl (fun _ _ _ h => h) ⟨_, _, rfl, rfl, rfl⟩ (fun ρ w E H => ex_cmp E rfl rfl rfl rfl (by decide)) ?_
  refine SxA.take (i := 41) rfl (by kernel_rfl) (by kernel_rfl) (by kernel_rfl) rfl rfl (fun _ _ _ h => h) trivial (fun ρ w E H => ex_pick E rfl (t := true) rfl rfl) ?_
  refine SxA.take (i := 42) rfl (by kernel_rfl) (by kernel_rfl) (by kernel_rfl) rfl rfl (fun _ _ _ h => h) trivial (fun ρ w E H => ex_assign E rfl rfl) ?_
  refine SxA.done (by kernel_rfl) ?_
  refine SxN.then_ (SxC.ret ?_)
  refine SxX.done (.bool true) (fun a w K H => res1 K rfl rfl) (fun w H => ?_)
  exact ⟨rfl, H.toBelow ⟨(fun g hg => by rw [List.mem_singleton.1 hg]; exact hg4), hq39.2.1.fresh, hq39.2.2.fresh, (fun g hg => by rw [List.mem_singleton.1 hg]; exact hg3), hq32.2.1.fresh, hq32.2.2.fresh, (fun g hg => by rw [List.mem_singleton.1 hg]; exact hg2), hq25.2.1.fresh, hq25.2.2.fresh, (fun g hg => by rw [List.mem_singleton.1 hg]; exact hg1), hq20.2.1.fresh, hq20.2.2.fresh, (netF_fresh hgn.1 hgn.2 hq39.1), trivial⟩⟩
end Go.Proofs.YteiaiilfekojfaaGreat.Net
end
section
set_option linter.unusedVariables false
namespace Go.Proofs.YteiaiilfekojfaaGreat.Msg
open Go.Joins Go.RowKit Go.WideShapes Go.ChangeShapes Go.Deep

structure Vx where
  slot : Nat
  n : Nat
  r : Nat
  value : List UInt8
def Vx.Fits (x : Vx) : Prop := x.slot < 18446744073709551616 ∧ x.n < 18446744073709551616 ∧ x.r < 256 ∧ x.value.length ≤ 9223372036854775807
def vxC (x : Vx) : List Value := [.int .u64 (x.slot : Int), .int .u64 (x.n : Int), .int .u8 (x.r : Int), .string ⟨x.value.toArray⟩]
set_option linter.unusedSimpArgs false in
set_option maxRecDepth 100000 in
theorem dec_vx {w : World} : ∀ n es, es.length = 4 → Leafy Tryz.prog w n 92 es → ∃ x, Vx.Fits x ∧ es = vxC x := by
  intro n es hlen h
  match es, hlen with
  | [c0, c1, c2, c3], _ =>
    have e0 : Tryz.prog.cellsOf 24 = 2 := by kernel_rfl
    have e1 : Tryz.prog.cellsOf 9 = 1 := by kernel_rfl
    have e2 : Tryz.prog.cellsOf 22 = 1 := by kernel_rfl
    have e3 : Tryz.prog.cellsOf 5 = 1 := by kernel_rfl
    obtain ⟨m1, _, hf1⟩ := leafy_struct Tryz.underlying92 h
    have g1_0 : Leafy Tryz.prog w m1 22 ((([c0, c1, c2, c3] : List Value).drop 0).take (Tryz.prog.cellsOf 22)) := hf1 0 _ rfl
    rw [e2] at g1_0
    simp only [List.drop_zero, List.drop_succ_cons, List.take_succ_cons, List.take_zero] at g1_0
    have g1_1 : Leafy Tryz.prog w m1 24 ((([c0, c1, c2, c3] : List Value).drop 1).take (Tryz.prog.cellsOf 24)) := hf1 1 _ rfl
    rw [e0] at g1_1
    simp only [List.drop_zero, List.drop_succ_cons, List.take_succ_cons, List.take_zero] at g1_1
    have g1_2 : Leafy Tryz.prog w m1 9 ((([c0, c1, c2, c3] : List Value).drop 3).take (Tryz.prog.cellsOf 9)) := hf1 2 _ rfl
    rw [e1] at g1_2
    simp only [List.drop_zero, List.drop_succ_cons, List.take_succ_cons, List.take_zero] at g1_2
    obtain ⟨z0, q0, w0⟩ := leafy_int Tryz.underlying22 g1_0
    obtain rfl : c0 = _ := List.head_eq_of_cons_eq q0
    have b0 := bounds_u64 w0
    obtain ⟨x0, rfl⟩ := Int.eq_ofNat_of_zero_le b0.1
    obtain ⟨m2, _, hf2⟩ := leafy_struct Tryz.underlying24 g1_1
    have g2_0 : Leafy Tryz.prog w m2 22 ((([c1, c2] : List Value).drop 0).take (Tryz.prog.cellsOf 22)) := hf2 0 _ rfl
    rw [e2] at g2_0
    simp only [List.drop_zero, List.drop_succ_cons, List.take_succ_cons, List.take_zero] at g2_0
    have g2_1 : Leafy Tryz.prog w m2 5 ((([c1, c2] : List Value).drop 1).take (Tryz.prog.cellsOf 5)) := hf2 1 _ rfl
    rw [e3] at g2_1
    simp only [List.drop_zero, List.drop_succ_cons, List.take_succ_cons, List.take_zero] at g2_1
    obtain ⟨z1, q1, w1⟩ := leafy_int Tryz.underlying22 g2_0
    obtain rfl : c1 = _ := List.head_eq_of_cons_eq q1
    have b1 := bounds_u64 w1
    obtain ⟨x1, rfl⟩ := Int.eq_ofNat_of_zero_le b1.1
    obtain ⟨z2, q2, w2⟩ := leafy_int Tryz.underlying5 g2_1
    obtain rfl : c2 = _ := List.head_eq_of_cons_eq q2
    have b2 := bounds_u8 w2
    obtain ⟨x2, rfl⟩ := Int.eq_ofNat_of_zero_le b2.1
    obtain ⟨x3, q3, b3⟩ := leafy_string Tryz.underlying9 g1_2
    obtain rfl : c3 = _ := List.head_eq_of_cons_eq q3
    exact ⟨⟨x0, x1, x2, x3⟩, by simp only [Vx.Fits]; omega, rfl⟩

set_option maxRecDepth 100000 in
theorem dec_vo {w : World} : ∀ n es, es.length = 4 → Leafy Tryz.prog w n 92 es → ∃ x : Vo, x.Fits ∧ es = voL x := by
  intro n es hl h
  obtain ⟨x, hx, he⟩ := dec_vx n es hl h
  simp only [Vx.Fits] at hx
  exact ⟨⟨x.slot, x.n, x.r, x.value⟩, ⟨hx.1, hx.2.1, hx.2.2.1⟩, he⟩
structure Ix where
  slot : Nat
  value : List UInt8
def Ix.Fits (x : Ix) : Prop := x.slot < 18446744073709551616 ∧ x.value.length ≤ 9223372036854775807
def ixC (x : Ix) : List Value := [.int .u64 (x.slot : Int), .string ⟨x.value.toArray⟩]
set_option linter.unusedSimpArgs false in
set_option maxRecDepth 100000 in
theorem dec_ix {w : World} : ∀ n es, es.length = 2 → Leafy Tryz.prog w n 94 es → ∃ x, Ix.Fits x ∧ es = ixC x := by
  intro n es hlen h
  match es, hlen with
  | [c0, c1], _ =>
    have e0 : Tryz.prog.cellsOf 9 = 1 := by kernel_rfl
    have e1 : Tryz.prog.cellsOf 22 = 1 := by kernel_rfl
    obtain ⟨m1, _, hf1⟩ := leafy_struct Tryz.underlying94 h
    have g1_0 : Leafy Tryz.prog w m1 22 ((([c0, c1] : List Value).drop 0).take (Tryz.prog.cellsOf 22)) := hf1 0 _ rfl
    rw [e1] at g1_0
    simp only [List.drop_zero, List.drop_succ_cons, List.take_succ_cons, List.take_zero] at g1_0
    have g1_1 : Leafy Tryz.prog w m1 9 ((([c0, c1] : List Value).drop 1).take (Tryz.prog.cellsOf 9)) := hf1 1 _ rfl
    rw [e0] at g1_1
    simp only [List.drop_zero, List.drop_succ_cons, List.take_succ_cons, List.take_zero] at g1_1
    obtain ⟨z0, q0, w0⟩ := leafy_int Tryz.underlying22 g1_0
    obtain rfl : c0 = _ := List.head_eq_of_cons_eq q0
    have b0 := bounds_u64 w0
    obtain ⟨x0, rfl⟩ := Int.eq_ofNat_of_zero_le b0.1
    obtain ⟨x1, q1, b1⟩ := leafy_string Tryz.underlying9 g1_1
    obtain rfl : c1 = _ := List.head_eq_of_cons_eq q1
    exact ⟨⟨x0, x1⟩, by simp only [Ix.Fits]; omega, rfl⟩

theorem dec_im {w : World} : ∀ n es, es.length = 2 → Leafy Tryz.prog w n 94 es → ∃ x : Im, x.slot < 18446744073709551616 ∧ es = imL x := by
  intro n es hl h
  obtain ⟨x, hx, he⟩ := dec_ix n es hl h
  simp only [Ix.Fits] at hx
  exact ⟨⟨x.slot, x.value⟩, hx.1, he⟩
set_option maxRecDepth 100000 in
theorem leafy_vos {w : World} {n : Nat} {cs : List Value} (h : Leafy Tryz.prog w n 25 cs) : ∃ (A : Option Addr) (c : Nat) (V : List Vo), cs = [.slice A V.length c] ∧ Rows w A 4 voL V ∧ (∀ x ∈ V, x.Fits) ∧ V.length ≤ 9223372036854775807 := by
  cases n with
  | zero => exact h.elim
  | succ n =>
    unfold Leafy at h
    rw [Tryz.underlying25] at h
    have e4 : Tryz.prog.cellsOf 92 = 4 := by kernel_rfl
    rcases h with h0 | ⟨a, len, cap, h0, hl, hc, hi⟩
    · exact ⟨none, 0, [], h0, Rows.nil _ _ _ _, by simp, by simp⟩
    · obtain ⟨l, h1, h2, h3⟩ := rows_of (w := w) (sz := 4) (cells := voL) (a := a) (m := len) (Q := fun x => x.Fits) (fun i hil => by
        obtain ⟨es, e1, e2, e3⟩ := hi i hil
        obtain ⟨x, hx, he⟩ := dec_vo n es (by rw [e1, e4]) e2
        exact ⟨x, hx, es, he, by rw [e4] at e3; exact e3⟩) (fun x => by rw [voL_len]; omega)
      exact ⟨some a, cap, l, by rw [h1]; exact h0, h3, h2, by omega⟩
set_option maxRecDepth 100000 in
theorem leafy_ims {w : World} {n : Nat} {cs : List Value} (h : Leafy Tryz.prog w n 26 cs) : ∃ (A : Option Addr) (c : Nat) (V : List Im), cs = [.slice A V.length c] ∧ Rows w A 2 imL V ∧ (∀ x ∈ V, x.slot < 18446744073709551616) ∧ V.length ≤ 9223372036854775807 := by
  cases n with
  | zero => exact h.elim
  | succ n =>
    unfold Leafy at h
    rw [Tryz.underlying26] at h
    have e4 : Tryz.prog.cellsOf 94 = 2 := by kernel_rfl
    rcases h with h0 | ⟨a, len, cap, h0, hl, hc, hi⟩
    · exact ⟨none, 0, [], h0, Rows.nil _ _ _ _, by simp, by simp⟩
    · obtain ⟨l, h1, h2, h3⟩ := rows_of (w := w) (sz := 2) (cells := imL) (a := a) (m := len) (Q := fun x => x.slot < 18446744073709551616) (fun i hil => by
        obtain ⟨es, e1, e2, e3⟩ := hi i hil
        obtain ⟨x, hx, he⟩ := dec_im n es (by rw [e1, e4]) e2
        exact ⟨x, hx, es, he, by rw [e4] at e3; exact e3⟩) (fun x => by rw [imL_len]; omega)
      exact ⟨some a, cap, l, by rw [h1]; exact h0, h3, h2, by omega⟩
set_option linter.unusedSimpArgs false in
set_option maxRecDepth 100000 in
theorem dec_msg {w : World} : ∀ n es, es.length = 18 → Leafy Tryz.prog w n 33 es → ∃ (m : Ms) (A : Option Addr) (ka : Nat) (B : Option Addr) (kb : Nat), m.Fits ∧ MsRows w m A B ∧ (m.votes.length ≤ 9223372036854775807 ∧ m.items.length ≤ 9223372036854775807) ∧ es = msL m (.slice A m.votes.length ka) (.slice B m.items.length kb) := by
  intro n es hlen h
  match es, hlen with
  | [c0, c1, c2, c3, c4, c5, c6, c7, c8, c9, c10, c11, c12, c13, c14, c15, c16, c17], _ =>
    have e0 : Tryz.prog.cellsOf 26 = 1 := by kernel_rfl
    have e1 : Tryz.prog.cellsOf 25 = 1 := by kernel_rfl
    have e2 : Tryz.prog.cellsOf 24 = 2 := by kernel_rfl
    have e3 : Tryz.prog.cellsOf 29 = 7 := by kernel_rfl
    have e4 : Tryz.prog.cellsOf 31 = 2 := by kernel_rfl
    have e5 : Tryz.prog.cellsOf 9 = 1 := by kernel_rfl
    have e6 : Tryz.prog.cellsOf 27 = 1 := by kernel_rfl
    have e7 : Tryz.prog.cellsOf 22 = 1 := by kernel_rfl
    have e8 : Tryz.prog.cellsOf 5 = 1 := by kernel_rfl
    obtain ⟨m1, _, hf1⟩ := leafy_struct Tryz.underlying33 h
    have g1_0 : Leafy Tryz.prog w m1 5 ((([c0, c1, c2, c3, c4, c5, c6, c7, c8, c9, c10, c11, c12, c13, c14, c15, c16, c17] : List Value).drop 0).take (Tryz.prog.cellsOf 5)) := hf1 0 _ rfl
    rw [e8] at g1_0
    simp only [List.drop_zero, List.drop_succ_cons, List.take_succ_cons, List.take_zero] at g1_0
    have g1_1 : Leafy Tryz.prog w m1 24 ((([c0, c1, c2, c3, c4, c5, c6, c7, c8, c9, c10, c11, c12, c13, c14, c15, c16, c17] : List Value).drop 1).take (Tryz.prog.cellsOf 24)) := hf1 1 _ rfl
    rw [e2] at g1_1
    simp only [List.drop_zero, List.drop_succ_cons, List.take_succ_cons, List.take_zero] at g1_1
    have g1_2 : Leafy Tryz.prog w m1 22 ((([c0, c1, c2, c3, c4, c5, c6, c7, c8, c9, c10, c11, c12, c13, c14, c15, c16, c17] : List Value).drop 3).take (Tryz.prog.cellsOf 22)) := hf1 2 _ rfl
    rw [e7] at g1_2
    simp only [List.drop_zero, List.drop_succ_cons, List.take_succ_cons, List.take_zero] at g1_2
    have g1_3 : Leafy Tryz.prog w m1 22 ((([c0, c1, c2, c3, c4, c5, c6, c7, c8, c9, c10, c11, c12, c13, c14, c15, c16, c17] : List Value).drop 4).take (Tryz.prog.cellsOf 22)) := hf1 3 _ rfl
    rw [e7] at g1_3
    simp only [List.drop_zero, List.drop_succ_cons, List.take_succ_cons, List.take_zero] at g1_3
    have g1_4 : Leafy Tryz.prog w m1 5 ((([c0, c1, c2, c3, c4, c5, c6, c7, c8, c9, c10, c11, c12, c13, c14, c15, c16, c17] : List Value).drop 5).take (Tryz.prog.cellsOf 5)) := hf1 4 _ rfl
    rw [e8] at g1_4
    simp only [List.drop_zero, List.drop_succ_cons, List.take_succ_cons, List.take_zero] at g1_4
    have g1_5 : Leafy Tryz.prog w m1 9 ((([c0, c1, c2, c3, c4, c5, c6, c7, c8, c9, c10, c11, c12, c13, c14, c15, c16, c17] : List Value).drop 6).take (Tryz.prog.cellsOf 9)) := hf1 5 _ rfl
    rw [e5] at g1_5
    simp only [List.drop_zero, List.drop_succ_cons, List.take_succ_cons, List.take_zero] at g1_5
    have g1_6 : Leafy Tryz.prog w m1 25 ((([c0, c1, c2, c3, c4, c5, c6, c7, c8, c9, c10, c11, c12, c13, c14, c15, c16, c17] : List Value).drop 7).take (Tryz.prog.cellsOf 25)) := hf1 6 _ rfl
    rw [e1] at g1_6
    simp only [List.drop_zero, List.drop_succ_cons, List.take_succ_cons, List.take_zero] at g1_6
    have g1_7 : Leafy Tryz.prog w m1 26 ((([c0, c1, c2, c3, c4, c5, c6, c7, c8, c9, c10, c11, c12, c13, c14, c15, c16, c17] : List Value).drop 8).take (Tryz.prog.cellsOf 26)) := hf1 7 _ rfl
    rw [e0] at g1_7
    simp only [List.drop_zero, List.drop_succ_cons, List.take_succ_cons, List.take_zero] at g1_7
    have g1_8 : Leafy Tryz.prog w m1 29 ((([c0, c1, c2, c3, c4, c5, c6, c7, c8, c9, c10, c11, c12, c13, c14, c15, c16, c17] : List Value).drop 9).take (Tryz.prog.cellsOf 29)) := hf1 8 _ rfl
    rw [e3] at g1_8
    simp only [List.drop_zero, List.drop_succ_cons, List.take_succ_cons, List.take_zero] at g1_8
    have g1_9 : Leafy Tryz.prog w m1 31 ((([c0, c1, c2, c3, c4, c5, c6, c7, c8, c9, c10, c11, c12, c13, c14, c15, c16, c17] : List Value).drop 16).take (Tryz.prog.cellsOf 31)) := hf1 9 _ rfl
    rw [e4] at g1_9
    simp only [List.drop_zero, List.drop_succ_cons, List.take_succ_cons, List.take_zero] at g1_9
    obtain ⟨z0, q0, w0⟩ := leafy_int Tryz.underlying5 g1_0
    obtain rfl : c0 = _ := List.head_eq_of_cons_eq q0
    have b0 := bounds_u8 w0
    obtain ⟨x0, rfl⟩ := Int.eq_ofNat_of_zero_le b0.1
    obtain ⟨m2, _, hf2⟩ := leafy_struct Tryz.underlying24 g1_1
    have g2_0 : Leafy Tryz.prog w m2 22 ((([c1, c2] : List Value).drop 0).take (Tryz.prog.cellsOf 22)) := hf2 0 _ rfl
    rw [e7] at g2_0
    simp only [List.drop_zero, List.drop_succ_cons, List.take_succ_cons, List.take_zero] at g2_0
    have g2_1 : Leafy Tryz.prog w m2 5 ((([c1, c2] : List Value).drop 1).take (Tryz.prog.cellsOf 5)) := hf2 1 _ rfl
    rw [e8] at g2_1
    simp only [List.drop_zero, List.drop_succ_cons, List.take_succ_cons, List.take_zero] at g2_1
    obtain ⟨z1, q1, w1⟩ := leafy_int Tryz.underlying22 g2_0
    obtain rfl : c1 = _ := List.head_eq_of_cons_eq q1
    have b1 := bounds_u64 w1
    obtain ⟨x1, rfl⟩ := Int.eq_ofNat_of_zero_le b1.1
    obtain ⟨z2, q2, w2⟩ := leafy_int Tryz.underlying5 g2_1
    obtain rfl : c2 = _ := List.head_eq_of_cons_eq q2
    have b2 := bounds_u8 w2
    obtain ⟨x2, rfl⟩ := Int.eq_ofNat_of_zero_le b2.1
    obtain ⟨z3, q3, w3⟩ := leafy_int Tryz.underlying22 g1_2
    obtain rfl : c3 = _ := List.head_eq_of_cons_eq q3
    have b3 := bounds_u64 w3
    obtain ⟨x3, rfl⟩ := Int.eq_ofNat_of_zero_le b3.1
    obtain ⟨z4, q4, w4⟩ := leafy_int Tryz.underlying22 g1_3
    obtain rfl : c4 = _ := List.head_eq_of_cons_eq q4
    have b4 := bounds_u64 w4
    obtain ⟨x4, rfl⟩ := Int.eq_ofNat_of_zero_le b4.1
    obtain ⟨z5, q5, w5⟩ := leafy_int Tryz.underlying5 g1_4
    obtain rfl : c5 = _ := List.head_eq_of_cons_eq q5
    have b5 := bounds_u8 w5
    obtain ⟨x5, rfl⟩ := Int.eq_ofNat_of_zero_le b5.1
    obtain ⟨x6, q6, b6⟩ := leafy_string Tryz.underlying9 g1_5
    obtain rfl : c6 = _ := List.head_eq_of_cons_eq q6
    obtain ⟨A7, k7, V7, q7, r7, f7, n7⟩ := leafy_vos g1_6
    obtain rfl : c7 = _ := List.head_eq_of_cons_eq q7
    obtain ⟨A8, k8, V8, q8, r8, f8, n8⟩ := leafy_ims g1_7
    obtain rfl : c8 = _ := List.head_eq_of_cons_eq q8
    obtain ⟨m3, _, hf3⟩ := leafy_struct Tryz.underlying29 g1_8
    have g3_0 : Leafy Tryz.prog w m3 5 ((([c9, c10, c11, c12, c13, c14, c15] : List Value).drop 0).take (Tryz.prog.cellsOf 5)) := hf3 0 _ rfl
    rw [e8] at g3_0
    simp only [List.drop_zero, List.drop_succ_cons, List.take_succ_cons, List.take_zero] at g3_0
    have g3_1 : Leafy Tryz.prog w m3 27 ((([c9, c10, c11, c12, c13, c14, c15] : List Value).drop 1).take (Tryz.prog.cellsOf 27)) := hf3 1 _ rfl
    rw [e6] at g3_1
    simp only [List.drop_zero, List.drop_succ_cons, List.take_succ_cons, List.take_zero] at g3_1
    have g3_2 : Leafy Tryz.prog w m3 5 ((([c9, c10, c11, c12, c13, c14, c15] : List Value).drop 2).take (Tryz.prog.cellsOf 5)) := hf3 2 _ rfl
    rw [e8] at g3_2
    simp only [List.drop_zero, List.drop_succ_cons, List.take_succ_cons, List.take_zero] at g3_2
    have g3_3 : Leafy Tryz.prog w m3 9 ((([c9, c10, c11, c12, c13, c14, c15] : List Value).drop 3).take (Tryz.prog.cellsOf 9)) := hf3 3 _ rfl
    rw [e5] at g3_3
    simp only [List.drop_zero, List.drop_succ_cons, List.take_succ_cons, List.take_zero] at g3_3
    have g3_4 : Leafy Tryz.prog w m3 9 ((([c9, c10, c11, c12, c13, c14, c15] : List Value).drop 4).take (Tryz.prog.cellsOf 9)) := hf3 4 _ rfl
    rw [e5] at g3_4
    simp only [List.drop_zero, List.drop_succ_cons, List.take_succ_cons, List.take_zero] at g3_4
    have g3_5 : Leafy Tryz.prog w m3 9 ((([c9, c10, c11, c12, c13, c14, c15] : List Value).drop 5).take (Tryz.prog.cellsOf 9)) := hf3 5 _ rfl
    rw [e5] at g3_5
    simp only [List.drop_zero, List.drop_succ_cons, List.take_succ_cons, List.take_zero] at g3_5
    have g3_6 : Leafy Tryz.prog w m3 5 ((([c9, c10, c11, c12, c13, c14, c15] : List Value).drop 6).take (Tryz.prog.cellsOf 5)) := hf3 6 _ rfl
    rw [e8] at g3_6
    simp only [List.drop_zero, List.drop_succ_cons, List.take_succ_cons, List.take_zero] at g3_6
    obtain ⟨z9, q9, w9⟩ := leafy_int Tryz.underlying5 g3_0
    obtain rfl : c9 = _ := List.head_eq_of_cons_eq q9
    have b9 := bounds_u8 w9
    obtain ⟨x9, rfl⟩ := Int.eq_ofNat_of_zero_le b9.1
    obtain ⟨z10, q10, w10⟩ := leafy_int Tryz.underlying27 g3_1
    obtain rfl : c10 = _ := List.head_eq_of_cons_eq q10
    have b10 := bounds_u32 w10
    obtain ⟨x10, rfl⟩ := Int.eq_ofNat_of_zero_le b10.1
    obtain ⟨z11, q11, w11⟩ := leafy_int Tryz.underlying5 g3_2
    obtain rfl : c11 = _ := List.head_eq_of_cons_eq q11
    have b11 := bounds_u8 w11
    obtain ⟨x11, rfl⟩ := Int.eq_ofNat_of_zero_le b11.1
    obtain ⟨x12, q12, b12⟩ := leafy_string Tryz.underlying9 g3_3
    obtain rfl : c12 = _ := List.head_eq_of_cons_eq q12
    obtain ⟨x13, q13, b13⟩ := leafy_string Tryz.underlying9 g3_4
    obtain rfl : c13 = _ := List.head_eq_of_cons_eq q13
    obtain ⟨x14, q14, b14⟩ := leafy_string Tryz.underlying9 g3_5
    obtain rfl : c14 = _ := List.head_eq_of_cons_eq q14
    obtain ⟨z15, q15, w15⟩ := leafy_int Tryz.underlying5 g3_6
    obtain rfl : c15 = _ := List.head_eq_of_cons_eq q15
    have b15 := bounds_u8 w15
    obtain ⟨x15, rfl⟩ := Int.eq_ofNat_of_zero_le b15.1
    obtain ⟨m4, _, hf4⟩ := leafy_struct Tryz.underlying31 g1_9
    have g4_0 : Leafy Tryz.prog w m4 5 ((([c16, c17] : List Value).drop 0).take (Tryz.prog.cellsOf 5)) := hf4 0 _ rfl
    rw [e8] at g4_0
    simp only [List.drop_zero, List.drop_succ_cons, List.take_succ_cons, List.take_zero] at g4_0
    have g4_1 : Leafy Tryz.prog w m4 9 ((([c16, c17] : List Value).drop 1).take (Tryz.prog.cellsOf 9)) := hf4 1 _ rfl
    rw [e5] at g4_1
    simp only [List.drop_zero, List.drop_succ_cons, List.take_succ_cons, List.take_zero] at g4_1
    obtain ⟨z16, q16, w16⟩ := leafy_int Tryz.underlying5 g4_0
    obtain rfl : c16 = _ := List.head_eq_of_cons_eq q16
    have b16 := bounds_u8 w16
    obtain ⟨x16, rfl⟩ := Int.eq_ofNat_of_zero_le b16.1
    obtain ⟨x17, q17, b17⟩ := leafy_string Tryz.underlying9 g4_1
    obtain rfl : c17 = _ := List.head_eq_of_cons_eq q17
    exact ⟨⟨x0, x1, x2, x3, x4, x5, x6, V7, V8, ⟨x9, x10, x11, x12, x13, x14, x15⟩, x16, x17⟩, A7, k7, A8, k8, ⟨(show x0 < 256 by omega), (show x1 < 18446744073709551616 by omega), (show x2 < 256 by omega), (show x3 < 18446744073709551616 by omega), (show x4 < 18446744073709551616 by omega), (show x5 < 256 by omega), f7, f8, ⟨(show x9 < 256 by omega), (show x10 < 4294967296 by omega), (show x11 < 256 by omega), b12, b13, b14, (show x15 < 256 by omega)⟩, (show x16 < 256 by omega)⟩, ⟨r7, r8⟩, ⟨n7, n8⟩, rfl⟩

end Go.Proofs.YteiaiilfekojfaaGreat.Msg
end
section
set_option linter.unusedVariables false
set_option linter.unusedSimpArgs false
namespace Go.Proofs.YteiaiilfekojfaaGreat.Net
open Go.Joins Go.RowKit Go.WideShapes Go.ChangeShapes Go.Deep Msg Sx

structure Na where
  d : Nat
  f : Nat
  t : Nat
  k : Int
  m : Ms
  A : Option Addr
  ka : Nat
  B : Option Addr
  kb : Nat
def naL (x : Na) : List Value := .int .u8 (x.d : Int) :: .int .u8 (x.f : Int) :: .int .u8 (x.t : Int) :: .int .i64 x.k :: msL x.m (.slice x.A x.m.votes.length x.ka) (.slice x.B x.m.items.length x.kb)
structure Na.Ok (w : World) (x : Na) : Prop where
  d : x.d < 256
  f : x.f < 256
  t : x.t < 256
  k : -9223372036854775808 ≤ x.k ∧ x.k ≤ 9223372036854775807
  m : x.m.Fits
  r : MsRows w x.m x.A x.B
  n1 : x.m.votes.length ≤ 9223372036854775807
  n2 : x.m.items.length ≤ 9223372036854775807
set_option maxRecDepth 100000 in
theorem dec_na {w : World} : ∀ n es, es.length = 22 → Leafy Tryz.prog w n 55 es → ∃ x : Na, x.Ok w ∧ es = naL x := by
  intro n es hlen h
  match es, hlen with
  | [c0, c1, c2, c3, c4, c5, c6, c7, c8, c9, c10, c11, c12, c13, c14, c15, c16, c17, c18, c19, c20, c21], _ =>
    have e0 : Tryz.prog.cellsOf 5 = 1 := by kernel_rfl
    have e1 : Tryz.prog.cellsOf 3 = 1 := by kernel_rfl
    have e2 : Tryz.prog.cellsOf 33 = 18 := by kernel_rfl
    obtain ⟨m1, _, hf⟩ := leafy_struct Tryz.underlying55 h
    have g0 : Leafy Tryz.prog w m1 5 ((([c0, c1, c2, c3, c4, c5, c6, c7, c8, c9, c10, c11, c12, c13, c14, c15, c16, c17, c18, c19, c20, c21] : List Value).drop 0).take (Tryz.prog.cellsOf 5)) := hf 0 _ rfl
    have g1 : Leafy Tryz.prog w m1 5 ((([c0, c1, c2, c3, c4, c5, c6, c7, c8, c9, c10, c11, c12, c13, c14, c15, c16, c17, c18, c19, c20, c21] : List Value).drop 1).take (Tryz.prog.cellsOf 5)) := hf 1 _ rfl
    have g2 : Leafy Tryz.prog w m1 5 ((([c0, c1, c2, c3, c4, c5, c6, c7, c8, c9, c10, c11, c12, c13, c14, c15, c16, c17, c18, c19, c20, c21] : List Value).drop 2).take (Tryz.prog.cellsOf 5)) := hf 2 _ rfl
    have g3 : Leafy Tryz.prog w m1 3 ((([c0, c1, c2, c3, c4, c5, c6, c7, c8, c9, c10, c11, c12, c13, c14, c15, c16, c17, c18, c19, c20, c21] : List Value).drop 3).take (Tryz.prog.cellsOf 3)) := hf 3 _ rfl
    have g4 : Leafy Tryz.prog w m1 33 ((([c0, c1, c2, c3, c4, c5, c6, c7, c8, c9, c10, c11, c12, c13, c14, c15, c16, c17, c18, c19, c20, c21] : List Value).drop 4).take (Tryz.prog.cellsOf 33)) := hf 4 _ rfl
    rw [e0] at g0 g1 g2
    rw [e1] at g3
    rw [e2] at g4
    simp only [List.drop_zero, List.drop_succ_cons, List.take_succ_cons, List.take_zero] at g0 g1 g2 g3 g4
    obtain ⟨z0, q0, w0⟩ := leafy_int Tryz.underlying5 g0
    obtain ⟨z1, q1, w1⟩ := leafy_int Tryz.underlying5 g1
    obtain ⟨z2, q2, w2⟩ := leafy_int Tryz.underlying5 g2
    obtain ⟨z3, q3, w3⟩ := leafy_int Tryz.underlying3 g3
    obtain ⟨m, A, ka, B, kb, h1, h2, h3, h4⟩ := dec_msg m1 _ rfl g4
    obtain rfl : c0 = _ := List.head_eq_of_cons_eq q0
    obtain rfl : c1 = _ := List.head_eq_of_cons_eq q1
    obtain rfl : c2 = _ := List.head_eq_of_cons_eq q2
    obtain rfl : c3 = _ := List.head_eq_of_cons_eq q3
    have b0 := bounds_u8 w0
    have b1 := bounds_u8 w1
    have b2 := bounds_u8 w2
    have b3 := bounds_i64 w3
    obtain ⟨x0, rfl⟩ := Int.eq_ofNat_of_zero_le b0.1
    obtain ⟨x1, rfl⟩ := Int.eq_ofNat_of_zero_le b1.1
    obtain ⟨x2, rfl⟩ := Int.eq_ofNat_of_zero_le b2.1
    refine ⟨⟨x0, x1, x2, z3, m, A, ka, B, kb⟩, ⟨(show x0 < 256 by omega), (show x1 < 256 by omega), (show x2 < 256 by omega), ⟨by dsimp only; omega, by dsimp only; omega⟩, h1, h2, h3.1, h3.2⟩, ?_⟩
    unfold naL
    dsimp only
    rw [← h4]
theorem open_na {H : Type} {enc : TypeId × Value → H} {w : World} {v : Value} {d : DataW H} {p : List MemPlace} (h : DataW.Trod enc Tryz.prog w 0 (fun _ => true) true 55 v d p) : ∃ x : Na, v = .agg (naL x).toArray ∧ x.Ok w := by
  obtain ⟨n, hn⟩ := leafy_trod h
  have hlen : v.cells.toList.length = 22 := by
    obtain ⟨m, hl, _⟩ := leafy_struct Tryz.underlying55 hn
    rw [hl]
    kernel_rfl
  obtain ⟨x, hx, he⟩ := dec_na n _ hlen hn
  refine ⟨x, ?_, hx⟩
  cases v with
  | agg cs =>
    have e : cs.toList = naL x := he
    rw [← e]
  | _ => simp [Value.cells] at hlen
end Go.Proofs.YteiaiilfekojfaaGreat.Net
end
section
set_option linter.unusedVariables false
set_option linter.unusedSimpArgs false
namespace Go.Proofs.YteiaiilfekojfaaGreat.Net
open Go.RowKit Sx Wire DrawInv
open Msg
set_option maxRecDepth 100000 in
set_option maxHeartbeats 4000000 in
theorem nillaw_lit (d f t : Nat) (k : Int) (mk mn mr mb ms mo ca cb ck cz mc : Nat) (mv cs ct cu mt : List UInt8) (vl : List Vo) (il : List Im) (A B : Option Addr) (ka kb : Nat) (w : World) : Calls Tryz.prog 8 #[.agg #[.int .u8 (d : Int), .int .u8 (f : Int), .int .u8 (t : Int), .int .i64 (k), .int .u8 (mk : Int), .int .u64 (mn : Int), .int .u8 (mr : Int), .int .u64 (mb : Int), .int .u64 (ms : Int), .int .u8 (mo : Int), .string ⟨mv.toArray⟩, .slice A vl.length ka, .slice B il.length kb, .int .u8 (ca : Int), .int .u32 (cb : Int), .int .u8 (ck : Int), .string ⟨cs.toArray⟩, .string ⟨ct.toArray⟩, .string ⟨cu.toArray⟩, .int .u8 (cz : Int), .int .u8 (mc : Int), .string ⟨mt.toArray⟩]] w fun e w' => e = .returned (.bool true) ∧ Below w.heap.size w w' := by
  refine sx_enter (n := 99) _ Tryz.func8 rfl rfl rfl (Hp.start w) ?_
  refine SxC.seq (SxC.region ?_)
  refine SxL.new (cs := [.int .u8 (d : Int), .int .u8 (f : Int), .int .u8 (t : Int), .int .i64 (k), .int .u8 (mk : Int), .int .u64 (mn : Int), .int .u8 (mr : Int), .int .u64 (mb : Int), .int .u64 (ms : Int), .int .u8 (mo : Int), .string ⟨mv.toArray⟩, .slice A vl.length ka, .slice B il.length kb, .int .u8 (ca : Int), .int .u32 (cb : Int), .int .u8 (ck : Int), .string ⟨cs.toArray⟩, .string ⟨ct.toArray⟩, .string ⟨cu.toArray⟩, .int .u8 (cz : Int), .int .u8 (mc : Int), .string ⟨mt.toArray⟩]) trivial rfl rfl (fun ρ w E H => ex_box E rfl rfl rfl) fun g1 hg1 => ?_
  refine SxL.val trivial rfl rfl (fun ρ w E H => ex_assign E rfl rfl) ?_
  refine SxL.nil (SxN.then_ (SxC.seq (SxC.region ?_)))
  refine SxL.val trivial rfl rfl (fun ρ w E H => ex_assign E rfl rfl) ?_
  refine SxL.nil (SxN.then_ (SxC.seq (SxC.region ?_)))
  refine SxL.val trivial rfl rfl (fun ρ w E H => ex_move E rfl rfl) ?_
  refine SxL.val (v := .pointer (some ⟨g1, 1, none⟩)) trivial rfl rfl (fun ρ w E H => ex_field E rfl fa_palaver_palaverlaw26_Act_1 rfl rfl) ?_
  refine SxL.val trivial rfl rfl (fun ρ w E H => ex_load1 E (H.get (i := 0) rfl) rfl rfl Tryz.underlying5 rfl rfl) ?_
  refine SxL.val (v := .pointer (some ⟨g1, 2, none⟩)) trivial rfl rfl (fun ρ w E H => ex_field E rfl fa_palaver_palaverlaw26_Act_2 rfl rfl) ?_
  refine SxL.val trivial rfl rfl (fun ρ w E H => ex_load1 E (H.get (i := 0) rfl) rfl rfl Tryz.underlying5 rfl rfl) ?_
  refine SxL.val (v := .pointer (some ⟨g1, 3, none⟩)) trivial rfl rfl (fun ρ w E H => ex_field E rfl fa_palaver_palaverlaw26_Act_3 rfl rfl) ?_
  refine SxL.val trivial rfl rfl (fun ρ w E H => ex_load1 E (H.get (i := 0) rfl) rfl rfl Tryz.underlying3 rfl rfl) ?_
  refine SxL.callB (v := .tuple #[.agg #[.int .u8 0, .int .u8 0, .int .u8 0, .int .u64 0, .int .u8 0, .int .u64 0, .int .u64 0, .int .u8 0, .string ⟨[].toArray⟩, .slice none 0 0, .slice none 0 0, .int .u8 0, .int .u32 0, .int .u8 0, .string ⟨[].toArray⟩, .string ⟨[].toArray⟩, .string ⟨[].toArray⟩, .int .u8 0, .int .u8 0, .string ⟨[].toArray⟩], .int .i64 1]) trivial rfl rfl (fun ρ w E => ex_call E en_palaver_net_Net_Take rfl rfl) (fun w H => take_nil f t k w) ?_
  refine SxL.val trivial rfl rfl (fun ρ w E H => ex_move E rfl rfl) ?_
  refine SxL.val trivial rfl rfl (fun ρ w E H => ex_extract E rfl rfl rfl) ?_
  refine SxL.val (v := .int .i64 1) trivial rfl rfl (fun ρ w E H => ex_extract E rfl rfl rfl) ?_
  refine SxL.new (cs := [.int .u8 0, .int .u8 0, .int .u8 0, .int .u64 0, .int .u8 0, .int .u64 0, .int .u64 0, .int .u8 0, .string ⟨[].toArray⟩, .slice none 0 0, .slice none 0 0, .int .u8 0, .int .u32 0, .int .u8 0, .string ⟨[].toArray⟩, .string ⟨[].toArray⟩, .string ⟨[].toArray⟩, .int .u8 0, .int .u8 0, .string ⟨[].toArray⟩]) trivial rfl rfl (fun ρ w E H => ex_alloc rfl zr_palaver_api_Letter rfl) fun g2 hg2 => ?_
  refine SxL.storeX (i := 0) [.int .u8 0, .int .u8 0, .int .u8 0, .int .u64 0, .int .u8 0, .int .u64 0, .int .u64 0, .int .u8 0, .string ⟨[].toArray⟩, .slice none 0 0, .slice none 0 0, .int .u8 0, .int .u32 0, .int .u8 0, .string ⟨[].toArray⟩, .string ⟨[].toArray⟩, .string ⟨[].toArray⟩, .int .u8 0, .int .u8 0, .string ⟨[].toArray⟩] trivial rfl rfl rfl rfl rfl sz_palaver_api_Letter rfl rfl rfl (putL_all _ _ rfl) ?_
  refine SxL.val trivial rfl rfl (fun ρ w E H => ex_assign E rfl rfl) ?_
  refine SxL.nil (SxN.then_ (SxC.seq (SxC.region ?_)))
  refine SxL.val trivial rfl rfl (fun ρ w E H => ex_move E rfl rfl) ?_
  refine SxL.val (v := .bool true) trivial rfl rfl (fun ρ w E H => ex_cmp E rfl rfl rfl rfl (by decide)) ?_
  refine SxL.val trivial rfl rfl (fun ρ w E H => ex_move E rfl rfl) ?_
  refine SxL.val ⟨_, _, rfl, rfl, rfl⟩ rfl rfl (fun ρ w E H => ex_move E rfl rfl) ?_
  refine SxL.val (v := .pointer (some ⟨g1, 1, none⟩)) ⟨_, _, rfl, rfl, rfl⟩ rfl rfl (fun ρ w E H => ex_field E rfl fa_palaver_palaverlaw26_Act_1 rfl rfl) ?_
  refine SxL.val ⟨_, _, rfl, rfl, rfl⟩ rfl rfl (fun ρ w E H => ex_load1 E (H.get (i := 1) rfl) rfl rfl Tryz.underlying5 rfl rfl) ?_
  refine SxL.val (v := .pointer (some ⟨g1, 2, none⟩)) ⟨_, _, rfl, rfl, rfl⟩ rfl rfl (fun ρ w E H => ex_field E rfl fa_palaver_palaverlaw26_Act_2 rfl rfl) ?_
  refine SxL.val ⟨_, _, rfl, rfl, rfl⟩ rfl rfl (fun ρ w E H => ex_load1 E (H.get (i := 1) rfl) rfl rfl Tryz.underlying5 rfl rfl) ?_
  refine SxL.val (v := .pointer (some ⟨g1, 4, none⟩)) ⟨_, _, rfl, rfl, rfl⟩ rfl rfl (fun ρ w E H => ex_field E rfl fa_palaver_palaverlaw26_Act_4 rfl rfl) ?_
  refine SxL.val ⟨_, _, rfl, rfl, rfl⟩ rfl rfl (fun ρ w E H => ex_load (part := [.int .u8 (mk : Int), .int .u64 (mn : Int), .int .u8 (mr : Int), .int .u64 (mb : Int), .int .u64 (ms : Int), .int .u8 (mo : Int), .string ⟨mv.toArray⟩, .slice A vl.length ka, .slice B il.length kb, .int .u8 (ca : Int), .int .u32 (cb : Int), .int .u8 (ck : Int), .string ⟨cs.toArray⟩, .string ⟨ct.toArray⟩, .string ⟨cu.toArray⟩, .int .u8 (cz : Int), .int .u8 (mc : Int), .string ⟨mt.toArray⟩]) E (H.get (i := 1) rfl) rfl rfl Tryz.underlying33 rfl sz_palaver_api_Msg rfl rfl) ?_
  refine SxL.val ⟨_, _, rfl, rfl, rfl⟩ rfl rfl (fun ρ w E H => ex_build (cs := [.int .u8 (f : Int), .int .u8 (t : Int), .int .u8 (mk : Int), .int .u64 (mn : Int), .int .u8 (mr : Int), .int .u64 (mb : Int), .int .u64 (ms : Int), .int .u8 (mo : Int), .string ⟨mv.toArray⟩, .slice A vl.length ka, .slice B il.length kb, .int .u8 (ca : Int), .int .u32 (cb : Int), .int .u8 (ck : Int), .string ⟨cs.toArray⟩, .string ⟨ct.toArray⟩, .string ⟨cu.toArray⟩, .int .u8 (cz : Int), .int .u8 (mc : Int), .string ⟨mt.toArray⟩]) E rfl rfl (by kernel_rfl)) ?_
  refine SxL.callB (v := .int .i64 1) ⟨_, _, rfl, rfl, rfl⟩ rfl rfl (fun ρ w E => ex_call E en_palaver_net_Net_Send rfl rfl) (fun w H => send_nil_lit _ _ _ _ _ _ _ _ _ _ _ _ _ _ _ _ _ _ _ _ A B ka kb w) ?_
  refine SxL.val (v := .bool true) ⟨_, _, rfl, rfl, rfl⟩ rfl rfl (fun ρ w E H => ex_cmp E rfl rfl rfl rfl (by decide)) ?_
  refine SxL.val trivial rfl rfl (fun ρ w E H => ex_pick E rfl (t := true) rfl rfl) ?_
  refine SxL.val trivial rfl rfl (fun ρ w E H => ex_move E rfl rfl) ?_
  refine SxL.val ⟨_, _, rfl, rfl, rfl⟩ rfl rfl (fun ρ w E H => ex_move E rfl rfl) ?_
  refine SxL.val (v := .pointer (some ⟨g1, 1, none⟩)) ⟨_, _, rfl, rfl, rfl⟩ rfl rfl (fun ρ w E H => ex_field E rfl fa_palaver_palaverlaw26_Act_1 rfl rfl) ?_
  refine SxL.val ⟨_, _, rfl, rfl, rfl⟩ rfl rfl (fun ρ w E H => ex_load1 E (H.get (i := 1) rfl) rfl rfl Tryz.underlying5 rfl rfl) ?_
  refine SxL.val (v := .pointer (some ⟨g1, 2, none⟩)) ⟨_, _, rfl, rfl, rfl⟩ rfl rfl (fun ρ w E H => ex_field E rfl fa_palaver_palaverlaw26_Act_2 rfl rfl) ?_
  refine SxL.val ⟨_, _, rfl, rfl, rfl⟩ rfl rfl (fun ρ w E H => ex_load1 E (H.get (i := 1) rfl) rfl rfl Tryz.underlying5 rfl rfl) ?_
  refine SxL.val (v := .pointer (some ⟨g1, 3, none⟩)) ⟨_, _, rfl, rfl, rfl⟩ rfl rfl (fun ρ w E H => ex_field E rfl fa_palaver_palaverlaw26_Act_3 rfl rfl) ?_
  refine SxL.val ⟨_, _, rfl, rfl, rfl⟩ rfl rfl (fun ρ w E H => ex_load1 E (H.get (i := 1) rfl) rfl rfl Tryz.underlying3 rfl rfl) ?_
  refine SxL.callB (v := .int .i64 1) ⟨_, _, rfl, rfl, rfl⟩ rfl rfl (fun ρ w E => ex_call E en_palaver_net_Net_Drop rfl rfl) (fun w H => drop_nil f t k w) ?_
  refine SxL.val (v := .bool true) ⟨_, _, rfl, rfl, rfl⟩ rfl rfl (fun ρ w E H => ex_cmp E rfl rfl rfl rfl (by decide)) ?_
  refine SxL.val trivial rfl rfl (fun ρ w E H => ex_pick E rfl (t := true) rfl rfl) ?_
  refine SxL.val trivial rfl rfl (fun ρ w E H => ex_move E rfl rfl) ?_
  refine SxL.val ⟨_, _, rfl, rfl, rfl⟩ rfl rfl (fun ρ w E H => ex_move E rfl rfl) ?_
  refine SxL.val (v := .pointer (some ⟨g1, 1, none⟩)) ⟨_, _, rfl, rfl, rfl⟩ rfl rfl (fun ρ w E H => ex_field E rfl fa_palaver_palaverlaw26_Act_1 rfl rfl) ?_
  refine SxL.val ⟨_, _, rfl, rfl, rfl⟩ rfl rfl (fun ρ w E H => ex_load1 E (H.get (i := 1) rfl) rfl rfl Tryz.underlying5 rfl rfl) ?_
  refine SxL.val (v := .pointer (some ⟨g1, 2, none⟩)) ⟨_, _, rfl, rfl, rfl⟩ rfl rfl (fun ρ w E H => ex_field E rfl fa_palaver_palaverlaw26_Act_2 rfl rfl) ?_
  refine SxL.val ⟨_, _, rfl, rfl, rfl⟩ rfl rfl (fun ρ w E H => ex_load1 E (H.get (i := 1) rfl) rfl rfl Tryz.underlying5 rfl rfl) ?_
  refine SxL.val (v := .pointer (some ⟨g1, 3, none⟩)) ⟨_, _, rfl, rfl, rfl⟩ rfl rfl (fun ρ w E H => ex_field E rfl fa_palaver_palaverlaw26_Act_3 rfl rfl) ?_
  refine SxL.val ⟨_, _, rfl, rfl, rfl⟩ rfl rfl (fun ρ w E H => ex_load1 E (H.get (i := 1) rfl) rfl rfl Tryz.underlying3 rfl rfl) ?_
  refine SxL.callB (v := .int .i64 1) ⟨_, _, rfl, rfl, rfl⟩ rfl rfl (fun ρ w E => ex_call E en_palaver_net_Net_Double rfl rfl) (fun w H => double_nil f t k w) ?_
  refine SxL.val (v := .bool true) ⟨_, _, rfl, rfl, rfl⟩ rfl rfl (fun ρ w E H => ex_cmp E rfl rfl rfl rfl (by decide)) ?_
  refine SxL.val trivial rfl rfl (fun ρ w E H => ex_pick E rfl (t := true) rfl rfl) ?_
  refine SxL.val trivial rfl rfl (fun ρ w E H => ex_move E rfl rfl) ?_
  refine SxL.val ⟨_, _, rfl, rfl, rfl⟩ rfl rfl (fun ρ w E H => ex_move E rfl rfl) ?_
  refine SxL.val (v := .pointer (some ⟨g1, 1, none⟩)) ⟨_, _, rfl, rfl, rfl⟩ rfl rfl (fun ρ w E H => ex_field E rfl fa_palaver_palaverlaw26_Act_1 rfl rfl) ?_
  refine SxL.val ⟨_, _, rfl, rfl, rfl⟩ rfl rfl (fun ρ w E H => ex_load1 E (H.get (i := 1) rfl) rfl rfl Tryz.underlying5 rfl rfl) ?_
  refine SxL.val (v := .pointer (some ⟨g1, 2, none⟩)) ⟨_, _, rfl, rfl, rfl⟩ rfl rfl (fun ρ w E H => ex_field E rfl fa_palaver_palaverlaw26_Act_2 rfl rfl) ?_
  refine SxL.val ⟨_, _, rfl, rfl, rfl⟩ rfl rfl (fun ρ w E H => ex_load1 E (H.get (i := 1) rfl) rfl rfl Tryz.underlying5 rfl rfl) ?_
  refine SxL.callB (v := .int .i64 1) ⟨_, _, rfl, rfl, rfl⟩ rfl rfl (fun ρ w E => ex_call E en_palaver_net_Net_Cut rfl rfl) (fun w H => cut_nil f t w) ?_
  refine SxL.val (v := .bool true) ⟨_, _, rfl, rfl, rfl⟩ rfl rfl (fun ρ w E H => ex_cmp E rfl rfl rfl rfl (by decide)) ?_
  refine SxL.val trivial rfl rfl (fun ρ w E H => ex_pick E rfl (t := true) rfl rfl) ?_
  refine SxL.val trivial rfl rfl (fun ρ w E H => ex_move E rfl rfl) ?_
  refine SxL.val ⟨_, _, rfl, rfl, rfl⟩ rfl rfl (fun ρ w E H => ex_move E rfl rfl) ?_
  refine SxL.callB (v := .int .i64 1) ⟨_, _, rfl, rfl, rfl⟩ rfl rfl (fun ρ w E => ex_call E en_palaver_net_Net_Heal rfl rfl) (fun w H => heal_nil w) ?_
  refine SxL.val (v := .bool true) ⟨_, _, rfl, rfl, rfl⟩ rfl rfl (fun ρ w E H => ex_cmp E rfl rfl rfl rfl (by decide)) ?_
  refine SxL.val trivial rfl rfl (fun ρ w E H => ex_pick E rfl (t := true) rfl rfl) ?_
  refine SxL.val trivial rfl rfl (fun ρ w E H => ex_move E rfl rfl) ?_
  refine SxL.val ⟨_, _, rfl, rfl, rfl⟩ rfl rfl (fun ρ w E H => ex_move E rfl rfl) ?_
  refine SxL.val (v := .pointer (some ⟨g1, 1, none⟩)) ⟨_, _, rfl, rfl, rfl⟩ rfl rfl (fun ρ w E H => ex_field E rfl fa_palaver_palaverlaw26_Act_1 rfl rfl) ?_
  refine SxL.val ⟨_, _, rfl, rfl, rfl⟩ rfl rfl (fun ρ w E H => ex_load1 E (H.get (i := 1) rfl) rfl rfl Tryz.underlying5 rfl rfl) ?_
  refine SxL.val (v := .pointer (some ⟨g1, 2, none⟩)) ⟨_, _, rfl, rfl, rfl⟩ rfl rfl (fun ρ w E H => ex_field E rfl fa_palaver_palaverlaw26_Act_2 rfl rfl) ?_
  refine SxL.val ⟨_, _, rfl, rfl, rfl⟩ rfl rfl (fun ρ w E H => ex_load1 E (H.get (i := 1) rfl) rfl rfl Tryz.underlying5 rfl rfl) ?_
  refine SxL.callB (v := .bool false) ⟨_, _, rfl, rfl, rfl⟩ rfl rfl (fun ρ w E => ex_call E en_palaver_net_Net_IsCut rfl rfl) (fun w H => iscut_nil f t w) ?_
  refine SxL.val (v := .bool true) ⟨_, _, rfl, rfl, rfl⟩ rfl rfl (fun ρ w E H => ex_not (t := false) E rfl rfl) ?_
  refine SxL.val trivial rfl rfl (fun ρ w E H => ex_pick E rfl (t := true) rfl rfl) ?_
  refine SxL.val trivial rfl rfl (fun ρ w E H => ex_move E rfl rfl) ?_
  refine SxL.val ⟨_, _, rfl, rfl, rfl⟩ rfl rfl (fun ρ w E H => ex_move E rfl rfl) ?_
  refine SxL.val (v := .pointer (some ⟨g1, 1, none⟩)) ⟨_, _, rfl, rfl, rfl⟩ rfl rfl (fun ρ w E H => ex_field E rfl fa_palaver_palaverlaw26_Act_1 rfl rfl) ?_
  refine SxL.val ⟨_, _, rfl, rfl, rfl⟩ rfl rfl (fun ρ w E H => ex_load1 E (H.get (i := 1) rfl) rfl rfl Tryz.underlying5 rfl rfl) ?_
  refine SxL.val (v := .pointer (some ⟨g1, 2, none⟩)) ⟨_, _, rfl, rfl, rfl⟩ rfl rfl (fun ρ w E H => ex_field E rfl fa_palaver_palaverlaw26_Act_2 rfl rfl) ?_
  refine SxL.val ⟨_, _, rfl, rfl, rfl⟩ rfl rfl (fun ρ w E H => ex_load1 E (H.get (i := 1) rfl) rfl rfl Tryz.underlying5 rfl rfl) ?_
  refine SxL.callB (v := .int .i64 0) ⟨_, _, rfl, rfl, rfl⟩ rfl rfl (fun ρ w E => ex_call E en_palaver_net_Net_Count rfl rfl) (fun w H => count_nil f t w) ?_
  refine SxL.val (v := .bool true) ⟨_, _, rfl, rfl, rfl⟩ rfl rfl (fun ρ w E H => ex_cmp E rfl rfl rfl rfl (by decide)) ?_
  refine SxL.val trivial rfl rfl (fun ρ w E H => ex_pick E rfl (t := true) rfl rfl) ?_
  refine SxL.val trivial rfl rfl (fun ρ w E H => ex_move E rfl rfl) ?_
  refine SxL.val ⟨_, _, rfl, rfl, rfl⟩ rfl rfl (fun ρ w E H => ex_move E rfl rfl) ?_
  refine SxL.callB (v := .int .i64 0) ⟨_, _, rfl, rfl, rfl⟩ rfl rfl (fun ρ w E => ex_call E en_palaver_net_Net_Len rfl rfl) (fun w H => len_nil w) ?_
  refine SxL.val (v := .bool true) ⟨_, _, rfl, rfl, rfl⟩ rfl rfl (fun ρ w E H => ex_cmp E rfl rfl rfl rfl (by decide)) ?_
  refine SxL.val trivial rfl rfl (fun ρ w E H => ex_pick E rfl (t := true) rfl rfl) ?_
  refine SxL.val trivial rfl rfl (fun ρ w E H => ex_move E rfl rfl) ?_
  refine SxL.val ⟨_, _, rfl, rfl, rfl⟩ rfl rfl (fun ρ w E H => ex_move E rfl rfl) ?_
  refine SxL.callB (v := .slice none 0 0) ⟨_, _, rfl, rfl, rfl⟩ rfl rfl (fun ρ w E => ex_call E en_palaver_net_Net_Pairs rfl rfl) (fun w H => pairs_nil w) ?_
  refine SxL.val (v := .int .i64 0) ⟨_, _, rfl, rfl, rfl⟩ rfl rfl (fun ρ w E H => ex_lenS E rfl Tryz.underlying51 rfl) ?_
  refine SxL.val (v := .bool true) ⟨_, _, rfl, rfl, rfl⟩ rfl rfl (fun ρ w E H => ex_cmp E rfl rfl rfl rfl (by decide)) ?_
  refine SxL.val trivial rfl rfl (fun ρ w E H => ex_pick E rfl (t := true) rfl rfl) ?_
  refine SxL.val trivial rfl rfl (fun ρ w E H => ex_move E rfl rfl) ?_
  refine SxL.callB (v := .bool true) ⟨_, _, rfl, rfl, rfl⟩ rfl rfl (fun ρ w E => ex_call E en_palaver_palaverlaw26_wakes rfl rfl) (fun w H => wakes_any w) ?_
  refine SxL.val trivial rfl rfl (fun ρ w E H => ex_pick E rfl (t := true) rfl rfl) ?_
  refine SxL.val trivial rfl rfl (fun ρ w E H => ex_assign E rfl rfl) ?_
  refine SxL.nil (SxN.then_ (SxC.ret ?_))
  refine SxX.done (.bool true) (fun a w K H => res1 K rfl rfl) (fun w H => ?_)
  exact ⟨rfl, H.toBelow ⟨(fun g hg => by rw [List.mem_singleton.1 hg]; exact hg2), (fun g hg => by rw [List.mem_singleton.1 hg]; exact hg1), trivial⟩⟩

theorem nillaw_any (x : Na) (w : World) : Calls Tryz.prog 8 #[.agg (naL x).toArray] w fun e w' => e = .returned (.bool true) ∧ Below w.heap.size w w' := by
  obtain ⟨d, f, t, k, ⟨mk, mn, mr, mb, ms, mo, mv, vl, il, ⟨ca, cb, ck, cs, ct, cu, cz⟩, mc, mt⟩, A, ka, B, kb⟩ := x
  exact nillaw_lit _ _ _ _ _ _ _ _ _ _ _ _ _ _ _ _ _ _ _ _ _ _ _ _ _ _ w
end Go.Proofs.YteiaiilfekojfaaGreat.Net
end
