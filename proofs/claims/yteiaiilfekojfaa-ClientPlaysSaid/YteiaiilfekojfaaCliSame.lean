/- palaverref18.Same: a message without lists is the same as itself. No conditions. -/
import Derived.Test.YteiaiilfekojfaaCliR
import Derived.Test.YteiaiilfekojfaaEqS
namespace Go.Proofs.Yteiaiilfekojfaa.Cli
open Go.RowKit Wire Cmd DrawInv

theorem eq_bl (n : Nat) (w : World) (a b : Int) : (Op.equalIn (n + 2) 39 (.agg #[.int .u64 a, .int .u8 b]) (.agg #[.int .u64 a, .int .u8 b])).run Try.prog w = .ok ((a == a) && ((b == b) && true)) w := by
  have e1 := run_equalIn_int (P := Try.prog) w n 37 .u64 .u64 a a Try.underlying37
  have e2 := run_equalIn_int (P := Try.prog) w n 5 .u8 .u8 b b Try.underlying5
  obtain ⟨h1, h2⟩ := fields_of Try.underlying39
  rw [run_equalIn_agg w (n + 1) _ _ _ h1 (by kernel_rfl), h2]
  exact eqFields_step (by decide) (by kernel_rfl) (by kernel_rfl) e1 (eqFields_step (by decide) (by kernel_rfl) (by kernel_rfl) e2 (eqFields_nil _ _ _ _ _))
theorem eq_ry (n : Nat) (w : World) (a : Int) (s : ByteArray) : (Op.equalIn (n + 2) 43 (.agg #[.int .u8 a, .string s]) (.agg #[.int .u8 a, .string s])).run Try.prog w = .ok ((a == a) && ((s.toList == s.toList) && true)) w := by
  have e1 := run_equalIn_int (P := Try.prog) w n 5 .u8 .u8 a a Try.underlying5
  have e2 := run_equalIn_string (P := Try.prog) w n 9 s s Try.underlying9
  obtain ⟨h1, h2⟩ := fields_of Try.underlying43
  rw [run_equalIn_agg w (n + 1) _ _ _ h1 (by kernel_rfl), h2]
  exact eqFields_step (by decide) (by kernel_rfl) (by kernel_rfl) e1 (eqFields_step (by decide) (by kernel_rfl) (by kernel_rfl) e2 (eqFields_nil _ _ _ _ _))
set_option maxRecDepth 100000 in
theorem eq_cm (n : Nat) (w : World) (a b k z : Int) (s t u : ByteArray) : (Op.equalIn (n + 2) 36 (.agg #[.int .u8 a, .int .u32 b, .int .u8 k, .string s, .string t, .string u, .int .u8 z]) (.agg #[.int .u8 a, .int .u32 b, .int .u8 k, .string s, .string t, .string u, .int .u8 z])).run Try.prog w = .ok ((a == a) && ((b == b) && ((k == k) && ((s.toList == s.toList) && ((t.toList == t.toList) && ((u.toList == u.toList) && ((z == z) && true))))))) w := by
  have e1 := run_equalIn_int (P := Try.prog) w n 5 .u8 .u8 a a Try.underlying5
  have e2 := run_equalIn_int (P := Try.prog) w n 34 .u32 .u32 b b Try.underlying34
  have e3 := run_equalIn_int (P := Try.prog) w n 5 .u8 .u8 k k Try.underlying5
  have e4 := run_equalIn_string (P := Try.prog) w n 9 s s Try.underlying9
  have e5 := run_equalIn_string (P := Try.prog) w n 9 t t Try.underlying9
  have e6 := run_equalIn_string (P := Try.prog) w n 9 u u Try.underlying9
  have e7 := run_equalIn_int (P := Try.prog) w n 5 .u8 .u8 z z Try.underlying5
  obtain ⟨h1, h2⟩ := fields_of Try.underlying36
  rw [run_equalIn_agg w (n + 1) _ _ _ h1 (by kernel_rfl), h2]
  exact eqFields_step (by decide) (by kernel_rfl) (by kernel_rfl) e1 (eqFields_step (by decide) (by kernel_rfl) (by kernel_rfl) e2 (eqFields_step (by decide) (by kernel_rfl) (by kernel_rfl) e3 (eqFields_step (by decide) (by kernel_rfl) (by kernel_rfl) e4 (eqFields_step (by decide) (by kernel_rfl) (by kernel_rfl) e5 (eqFields_step (by decide) (by kernel_rfl) (by kernel_rfl) e6 (eqFields_step (by decide) (by kernel_rfl) (by kernel_rfl) e7 (eqFields_nil _ _ _ _ _)))))))
set_option linter.unusedSimpArgs false in
set_option linter.unusedVariables false in
set_option maxRecDepth 100000 in
set_option maxHeartbeats 2000000 in
theorem rsame_any (mk mn mr mb ms mo mc : Nat) (mv mt : List UInt8) (la lb lk : Nat) (ls lt lu : List UInt8) (lz : Nat) (w : World) : Calls Try.prog 26 #[.agg #[.int .u8 (mk : Int), .int .u64 (mn : Int), .int .u8 (mr : Int), .int .u64 (mb : Int), .int .u64 (ms : Int), .int .u8 (mo : Int), .string ⟨mv.toArray⟩, .slice none 0 0, .slice none 0 0, .int .u8 (la : Int), .int .u32 (lb : Int), .int .u8 (lk : Int), .string ⟨ls.toArray⟩, .string ⟨lt.toArray⟩, .string ⟨lu.toArray⟩, .int .u8 (lz : Int), .int .u8 (mc : Int), .string ⟨mt.toArray⟩], .agg #[.int .u8 (mk : Int), .int .u64 (mn : Int), .int .u8 (mr : Int), .int .u64 (mb : Int), .int .u64 (ms : Int), .int .u8 (mo : Int), .string ⟨mv.toArray⟩, .slice none 0 0, .slice none 0 0, .int .u8 (la : Int), .int .u32 (lb : Int), .int .u8 (lk : Int), .string ⟨ls.toArray⟩, .string ⟨lt.toArray⟩, .string ⟨lu.toArray⟩, .int .u8 (lz : Int), .int .u8 (mc : Int), .string ⟨mt.toArray⟩]] w fun e w' => e = .returned (.bool true) ∧ Below w.heap.size w w' := by
  have hb := fun W => (eq_bl 9998 W (mn : Int) (mr : Int))
  have hc := fun W => (eq_cm 9998 W (la : Int) (lb : Int) (lk : Int) (lz : Int) ⟨ls.toArray⟩ ⟨lt.toArray⟩ ⟨lu.toArray⟩)
  have hr := fun W => (eq_ry 9998 W (mc : Int) ⟨mt.toArray⟩)
  simp only [beq_self_eq_true, Bool.true_and, Bool.and_true] at hb hc hr
  generalize (⟨ls.toArray⟩ : ByteArray) = s1 at *
  generalize (⟨lt.toArray⟩ : ByteArray) = s2 at *
  generalize (⟨lu.toArray⟩ : ByteArray) = s3 at *
  generalize (⟨mv.toArray⟩ : ByteArray) = s4 at *
  generalize (⟨mt.toArray⟩ : ByteArray) = s5 at *
  go_enter Try.func26, Try.ntmps26
  go_upto_region 1 with fail
  have b1 : Below w.heap.size w (w.alloc (.cells #[.int .u8 (mk : Int), .int .u64 (mn : Int), .int .u8 (mr : Int), .int .u64 (mb : Int), .int .u64 (ms : Int), .int .u8 (mo : Int), .string s4, .slice none 0 0, .slice none 0 0, .int .u8 (la : Int), .int .u32 (lb : Int), .int .u8 (lk : Int), .string s1, .string s2, .string s3, .int .u8 (lz : Int), .int .u8 (mc : Int), .string s5] 45)) := (Below.refl _ w).alloc (Nat.le_refl _) _
  have bw : Below w.heap.size w ((w.alloc (.cells #[.int .u8 (mk : Int), .int .u64 (mn : Int), .int .u8 (mr : Int), .int .u64 (mb : Int), .int .u64 (ms : Int), .int .u8 (mo : Int), .string s4, .slice none 0 0, .slice none 0 0, .int .u8 (la : Int), .int .u32 (lb : Int), .int .u8 (lk : Int), .string s1, .string s2, .string s3, .int .u8 (lz : Int), .int .u8 (mc : Int), .string s5] 45)).alloc (.cells #[.int .u8 (mk : Int), .int .u64 (mn : Int), .int .u8 (mr : Int), .int .u64 (mb : Int), .int .u64 (ms : Int), .int .u8 (mo : Int), .string s4, .slice none 0 0, .slice none 0 0, .int .u8 (la : Int), .int .u32 (lb : Int), .int .u8 (lk : Int), .string s1, .string s2, .string s3, .int .u8 (lz : Int), .int .u8 (mc : Int), .string s5] 45)) := b1.alloc b1.size _
  have kx := (Blk.new w 45 #[.int .u8 (mk : Int), .int .u64 (mn : Int), .int .u8 (mr : Int), .int .u64 (mb : Int), .int .u64 (ms : Int), .int .u8 (mo : Int), .string s4, .slice none 0 0, .slice none 0 0, .int .u8 (la : Int), .int .u32 (lb : Int), .int .u8 (lk : Int), .string s1, .string s2, .string s3, .int .u8 (lz : Int), .int .u8 (mc : Int), .string s5]).alloc (.cells #[.int .u8 (mk : Int), .int .u64 (mn : Int), .int .u8 (mr : Int), .int .u64 (mb : Int), .int .u64 (ms : Int), .int .u8 (mo : Int), .string s4, .slice none 0 0, .slice none 0 0, .int .u8 (la : Int), .int .u32 (lb : Int), .int .u8 (lk : Int), .string s1, .string s2, .string s3, .int .u8 (lz : Int), .int .u8 (mc : Int), .string s5] 45)
  have ky := Blk.new (w.alloc (.cells #[.int .u8 (mk : Int), .int .u64 (mn : Int), .int .u8 (mr : Int), .int .u64 (mb : Int), .int .u64 (ms : Int), .int .u8 (mo : Int), .string s4, .slice none 0 0, .slice none 0 0, .int .u8 (la : Int), .int .u32 (lb : Int), .int .u8 (lk : Int), .string s1, .string s2, .string s3, .int .u8 (lz : Int), .int .u8 (mc : Int), .string s5] 45)) 45 #[.int .u8 (mk : Int), .int .u64 (mn : Int), .int .u8 (mr : Int), .int .u64 (mb : Int), .int .u64 (ms : Int), .int .u8 (mo : Int), .string s4, .slice none 0 0, .slice none 0 0, .int .u8 (la : Int), .int .u32 (lb : Int), .int .u8 (lk : Int), .string s1, .string s2, .string s3, .int .u8 (lz : Int), .int .u8 (mc : Int), .string s5]
  have hs : (w.alloc (.cells #[.int .u8 (mk : Int), .int .u64 (mn : Int), .int .u8 (mr : Int), .int .u64 (mb : Int), .int .u64 (ms : Int), .int .u8 (mo : Int), .string s4, .slice none 0 0, .slice none 0 0, .int .u8 (la : Int), .int .u32 (lb : Int), .int .u8 (lk : Int), .string s1, .string s2, .string s3, .int .u8 (lz : Int), .int .u8 (mc : Int), .string s5] 45)).heap.size = w.heap.size + 1 := by rw [World.alloc, Array.size_push]
  rw [hs] at ky
  clear hs b1
  generalize (w.alloc (.cells #[.int .u8 (mk : Int), .int .u64 (mn : Int), .int .u8 (mr : Int), .int .u64 (mb : Int), .int .u64 (ms : Int), .int .u8 (mo : Int), .string s4, .slice none 0 0, .slice none 0 0, .int .u8 (la : Int), .int .u32 (lb : Int), .int .u8 (lk : Int), .string s1, .string s2, .string s3, .int .u8 (lz : Int), .int .u8 (mc : Int), .string s5] 45)).alloc (.cells #[.int .u8 (mk : Int), .int .u64 (mn : Int), .int .u8 (mr : Int), .int .u64 (mb : Int), .int .u64 (ms : Int), .int .u8 (mo : Int), .string s4, .slice none 0 0, .slice none 0 0, .int .u8 (la : Int), .int .u32 (lb : Int), .int .u8 (lk : Int), .string s1, .string s2, .string s3, .int .u8 (lz : Int), .int .u8 (mc : Int), .string s5] 45) = wA at *
  have x0 := kx.cell 0
  have y0 := ky.cell 0
  have x1 := kx.cell 1
  have y1 := ky.cell 1
  have x2 := kx.cell 2
  have y2 := ky.cell 2
  have x3 := kx.cell 3
  have y3 := ky.cell 3
  have x4 := kx.cell 4
  have y4 := ky.cell 4
  have x5 := kx.cell 5
  have y5 := ky.cell 5
  have x6 := kx.cell 6
  have y6 := ky.cell 6
  have x7 := kx.cell 7
  have y7 := ky.cell 7
  have x8 := kx.cell 8
  have y8 := ky.cell 8
  have x9 := kx.cell 9
  have y9 := ky.cell 9
  have x10 := kx.cell 10
  have y10 := ky.cell 10
  have x11 := kx.cell 11
  have y11 := ky.cell 11
  have x12 := kx.cell 12
  have y12 := ky.cell 12
  have x13 := kx.cell 13
  have y13 := ky.cell 13
  have x14 := kx.cell 14
  have y14 := ky.cell 14
  have x15 := kx.cell 15
  have y15 := ky.cell 15
  have x16 := kx.cell 16
  have y16 := ky.cell 16
  have x17 := kx.cell 17
  have y17 := ky.cell 17
  have HBW := Lib.hid bw
  clear kx ky bw
  go_wp2_with fail
  go_loopg [5] 0 (fun gk v5 wr => v5 = .int .i64 0 ∧ wr = wA)
  case atStart => exact ⟨rfl, rfl⟩
  case round =>
    obtain ⟨rfl, rfl⟩ := hrel
    go_wp2_with fail
    go_loopg [6] 0 (fun gk2 v6 wq => v6 = .int .i64 0 ∧ wq = wr)
    case atStart => exact ⟨rfl, rfl⟩
    case round =>
      obtain ⟨rfl, rfl⟩ := hrel
      go_wp2_with fail
      go_ret
      exact ⟨rfl, HBW.out⟩
end Go.Proofs.Yteiaiilfekojfaa.Cli
