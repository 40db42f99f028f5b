/- Facts about types and functions, by name: sizes, zero values, fields, that a function is entered. No conditions. -/
import Derived.Test.YteiaiilfekojfaaSxE
import Derived.Test.YteiaiilfekojfaaProg
import Derived.WalkKit
namespace Go.Proofs.Yteiaiilfekojfaa.Sx
open Go.RowKit

theorem en_palaver_client_Client_Hear : Enters Try.prog 17 := enters_of Try.func17 (by kernel_rfl) rfl
theorem en_palaver_client_Client_Invoke : Enters Try.prog 13 := enters_of Try.func13 (by kernel_rfl) rfl
theorem en_palaver_client_Client_Nudge : Enters Try.prog 15 := enters_of Try.func15 (by kernel_rfl) rfl
theorem en_palaver_client_Client_Waits : Enters Try.prog 19 := enters_of Try.func19 (by kernel_rfl) rfl
theorem en_palaver_palaverref27_Client_Hear : Enters Try.prog 18 := enters_of Try.func18 (by kernel_rfl) rfl
theorem en_palaver_palaverref27_Client_Invoke : Enters Try.prog 14 := enters_of Try.func14 (by kernel_rfl) rfl
theorem en_palaver_palaverref27_Client_Last : Enters Try.prog 21 := enters_of Try.func21 (by kernel_rfl) rfl
theorem en_palaver_palaverref27_Client_Nudge : Enters Try.prog 16 := enters_of Try.func16 (by kernel_rfl) rfl
theorem en_palaver_palaverref27_Client_asks : Enters Try.prog 34 := enters_of Try.func34 (by kernel_rfl) rfl
theorem en_palaver_client_New : Enters Try.prog 10 := enters_of Try.func10 (by kernel_rfl) rfl
theorem en_palaver_palaverlaw27_Great : Enters Try.prog 8 := enters_of Try.func8 (by kernel_rfl) rfl
theorem en_palaver_palaverlaw27_same : Enters Try.prog 20 := enters_of Try.func20 (by kernel_rfl) rfl
theorem en_palaver_palaverlaw27_wakes : Enters Try.prog 9 := enters_of Try.func9 (by kernel_rfl) rfl
theorem en_palaver_palaverref09_May : Enters Try.prog 33 := enters_of Try.func33 (by kernel_rfl) rfl
theorem en_palaver_palaverref18_Same : Enters Try.prog 26 := enters_of Try.func26 (by kernel_rfl) rfl
theorem en_palaver_palaverref27_May : Enters Try.prog 11 := enters_of Try.func11 (by kernel_rfl) rfl
theorem en_palaver_palaverref27_New : Enters Try.prog 12 := enters_of Try.func12 (by kernel_rfl) rfl
theorem sz_api_Cmd : (Try.prog.info? 30).map (·.size) = some 1 := by kernel_rfl
theorem zr_api_Cmd : (Try.prog.info? 30).bind (·.zero) = some (.slice none 0 0) := by kernel_rfl
theorem nf_api_Cmd : (Try.prog.info? 30).map (fun i => (i.zero, i.size, i.bytes)) = some (some (.slice none 0 0), 1, 24) := by kernel_rfl
theorem sz_bool : (Try.prog.info? 4).map (·.size) = some 1 := by kernel_rfl
theorem zr_bool : (Try.prog.info? 4).bind (·.zero) = some (.bool false) := by kernel_rfl
theorem nf_bool : (Try.prog.info? 4).map (fun i => (i.zero, i.size, i.bytes)) = some (some (.bool false), 1, 1) := by kernel_rfl
theorem sz_palaver_api_Cmd : (Try.prog.info? 36).map (·.size) = some 7 := by kernel_rfl
theorem zr_palaver_api_Cmd : (Try.prog.info? 36).bind (·.zero) = some (.agg #[.int .u8 0, .int .u32 0, .int .u8 0, .string ⟨[].toArray⟩, .string ⟨[].toArray⟩, .string ⟨[].toArray⟩, .int .u8 0]) := by kernel_rfl
theorem nf_palaver_api_Cmd : (Try.prog.info? 36).map (fun i => (i.zero, i.size, i.bytes)) = some (some (.agg #[.int .u8 0, .int .u32 0, .int .u8 0, .string ⟨[].toArray⟩, .string ⟨[].toArray⟩, .string ⟨[].toArray⟩, .int .u8 0]), 7, 72) := by kernel_rfl
theorem fa_palaver_api_Cmd_0 : fieldAt Try.prog 36 0 0 := ⟨_, _, 0, Try.underlying36, rfl, by kernel_rfl, rfl⟩
theorem fa_palaver_api_Cmd_1 : fieldAt Try.prog 36 1 1 := ⟨_, _, 0, Try.underlying36, rfl, by kernel_rfl, rfl⟩
theorem fa_palaver_api_Cmd_2 : fieldAt Try.prog 36 2 2 := ⟨_, _, 0, Try.underlying36, rfl, by kernel_rfl, rfl⟩
theorem fa_palaver_api_Cmd_3 : fieldAt Try.prog 36 3 3 := ⟨_, _, 0, Try.underlying36, rfl, by kernel_rfl, rfl⟩
theorem fa_palaver_api_Cmd_4 : fieldAt Try.prog 36 4 4 := ⟨_, _, 0, Try.underlying36, rfl, by kernel_rfl, rfl⟩
theorem fa_palaver_api_Cmd_5 : fieldAt Try.prog 36 5 5 := ⟨_, _, 0, Try.underlying36, rfl, by kernel_rfl, rfl⟩
theorem fa_palaver_api_Cmd_6 : fieldAt Try.prog 36 6 6 := ⟨_, _, 0, Try.underlying36, rfl, by kernel_rfl, rfl⟩
theorem sz_palaver_api_Letter : (Try.prog.info? 47).map (·.size) = some 20 := by kernel_rfl
theorem zr_palaver_api_Letter : (Try.prog.info? 47).bind (·.zero) = some (.agg #[.int .u8 0, .int .u8 0, .int .u8 0, .int .u64 0, .int .u8 0, .int .u64 0, .int .u64 0, .int .u8 0, .string ⟨[].toArray⟩, .slice none 0 0, .slice none 0 0, .int .u8 0, .int .u32 0, .int .u8 0, .string ⟨[].toArray⟩, .string ⟨[].toArray⟩, .string ⟨[].toArray⟩, .int .u8 0, .int .u8 0, .string ⟨[].toArray⟩]) := by kernel_rfl
theorem nf_palaver_api_Letter : (Try.prog.info? 47).map (fun i => (i.zero, i.size, i.bytes)) = some (some (.agg #[.int .u8 0, .int .u8 0, .int .u8 0, .int .u64 0, .int .u8 0, .int .u64 0, .int .u64 0, .int .u8 0, .string ⟨[].toArray⟩, .slice none 0 0, .slice none 0 0, .int .u8 0, .int .u32 0, .int .u8 0, .string ⟨[].toArray⟩, .string ⟨[].toArray⟩, .string ⟨[].toArray⟩, .int .u8 0, .int .u8 0, .string ⟨[].toArray⟩]), 20, 216) := by kernel_rfl
theorem fa_palaver_api_Letter_0 : fieldAt Try.prog 47 0 0 := ⟨_, _, 0, Try.underlying47, rfl, by kernel_rfl, rfl⟩
theorem fa_palaver_api_Letter_1 : fieldAt Try.prog 47 1 1 := ⟨_, _, 0, Try.underlying47, rfl, by kernel_rfl, rfl⟩
theorem fa_palaver_api_Letter_2 : fieldAt Try.prog 47 2 2 := ⟨_, _, 17, Try.underlying47, rfl, by kernel_rfl, rfl⟩
theorem sz_palaver_api_Msg : (Try.prog.info? 45).map (·.size) = some 18 := by kernel_rfl
theorem zr_palaver_api_Msg : (Try.prog.info? 45).bind (·.zero) = some (.agg #[.int .u8 0, .int .u64 0, .int .u8 0, .int .u64 0, .int .u64 0, .int .u8 0, .string ⟨[].toArray⟩, .slice none 0 0, .slice none 0 0, .int .u8 0, .int .u32 0, .int .u8 0, .string ⟨[].toArray⟩, .string ⟨[].toArray⟩, .string ⟨[].toArray⟩, .int .u8 0, .int .u8 0, .string ⟨[].toArray⟩]) := by kernel_rfl
theorem nf_palaver_api_Msg : (Try.prog.info? 45).map (fun i => (i.zero, i.size, i.bytes)) = some (some (.agg #[.int .u8 0, .int .u64 0, .int .u8 0, .int .u64 0, .int .u64 0, .int .u8 0, .string ⟨[].toArray⟩, .slice none 0 0, .slice none 0 0, .int .u8 0, .int .u32 0, .int .u8 0, .string ⟨[].toArray⟩, .string ⟨[].toArray⟩, .string ⟨[].toArray⟩, .int .u8 0, .int .u8 0, .string ⟨[].toArray⟩]), 18, 208) := by kernel_rfl
theorem fa_palaver_api_Msg_0 : fieldAt Try.prog 45 0 0 := ⟨_, _, 0, Try.underlying45, rfl, by kernel_rfl, rfl⟩
theorem fa_palaver_api_Msg_1 : fieldAt Try.prog 45 1 1 := ⟨_, _, 1, Try.underlying45, rfl, by kernel_rfl, rfl⟩
theorem fa_palaver_api_Msg_2 : fieldAt Try.prog 45 2 3 := ⟨_, _, 0, Try.underlying45, rfl, by kernel_rfl, rfl⟩
theorem fa_palaver_api_Msg_3 : fieldAt Try.prog 45 3 4 := ⟨_, _, 0, Try.underlying45, rfl, by kernel_rfl, rfl⟩
theorem fa_palaver_api_Msg_4 : fieldAt Try.prog 45 4 5 := ⟨_, _, 0, Try.underlying45, rfl, by kernel_rfl, rfl⟩
theorem fa_palaver_api_Msg_5 : fieldAt Try.prog 45 5 6 := ⟨_, _, 0, Try.underlying45, rfl, by kernel_rfl, rfl⟩
theorem fa_palaver_api_Msg_6 : fieldAt Try.prog 45 6 7 := ⟨_, _, 0, Try.underlying45, rfl, by kernel_rfl, rfl⟩
theorem fa_palaver_api_Msg_7 : fieldAt Try.prog 45 7 8 := ⟨_, _, 0, Try.underlying45, rfl, by kernel_rfl, rfl⟩
theorem fa_palaver_api_Msg_8 : fieldAt Try.prog 45 8 9 := ⟨_, _, 6, Try.underlying45, rfl, by kernel_rfl, rfl⟩
theorem fa_palaver_api_Msg_9 : fieldAt Try.prog 45 9 16 := ⟨_, _, 1, Try.underlying45, rfl, by kernel_rfl, rfl⟩
theorem sz_palaver_api_Reply : (Try.prog.info? 43).map (·.size) = some 2 := by kernel_rfl
theorem zr_palaver_api_Reply : (Try.prog.info? 43).bind (·.zero) = some (.agg #[.int .u8 0, .string ⟨[].toArray⟩]) := by kernel_rfl
theorem nf_palaver_api_Reply : (Try.prog.info? 43).map (fun i => (i.zero, i.size, i.bytes)) = some (some (.agg #[.int .u8 0, .string ⟨[].toArray⟩]), 2, 24) := by kernel_rfl
theorem fa_palaver_api_Reply_0 : fieldAt Try.prog 43 0 0 := ⟨_, _, 0, Try.underlying43, rfl, by kernel_rfl, rfl⟩
theorem fa_palaver_api_Reply_1 : fieldAt Try.prog 43 1 1 := ⟨_, _, 0, Try.underlying43, rfl, by kernel_rfl, rfl⟩
theorem sz_palaver_palaverlaw27_Act : (Try.prog.info? 49).map (·.size) = some 28 := by kernel_rfl
theorem zr_palaver_palaverlaw27_Act : (Try.prog.info? 49).bind (·.zero) = some (.agg #[.int .u8 0, .int .u8 0, .int .u32 0, .int .u8 0, .string ⟨[].toArray⟩, .string ⟨[].toArray⟩, .string ⟨[].toArray⟩, .int .u8 0, .int .u8 0, .int .u8 0, .int .u8 0, .int .u64 0, .int .u8 0, .int .u64 0, .int .u64 0, .int .u8 0, .string ⟨[].toArray⟩, .slice none 0 0, .slice none 0 0, .int .u8 0, .int .u32 0, .int .u8 0, .string ⟨[].toArray⟩, .string ⟨[].toArray⟩, .string ⟨[].toArray⟩, .int .u8 0, .int .u8 0, .string ⟨[].toArray⟩]) := by kernel_rfl
theorem nf_palaver_palaverlaw27_Act : (Try.prog.info? 49).map (fun i => (i.zero, i.size, i.bytes)) = some (some (.agg #[.int .u8 0, .int .u8 0, .int .u32 0, .int .u8 0, .string ⟨[].toArray⟩, .string ⟨[].toArray⟩, .string ⟨[].toArray⟩, .int .u8 0, .int .u8 0, .int .u8 0, .int .u8 0, .int .u64 0, .int .u8 0, .int .u64 0, .int .u64 0, .int .u8 0, .string ⟨[].toArray⟩, .slice none 0 0, .slice none 0 0, .int .u8 0, .int .u32 0, .int .u8 0, .string ⟨[].toArray⟩, .string ⟨[].toArray⟩, .string ⟨[].toArray⟩, .int .u8 0, .int .u8 0, .string ⟨[].toArray⟩]), 28, 296) := by kernel_rfl
theorem fa_palaver_palaverlaw27_Act_0 : fieldAt Try.prog 49 0 0 := ⟨_, _, 0, Try.underlying49, rfl, by kernel_rfl, rfl⟩
theorem fa_palaver_palaverlaw27_Act_1 : fieldAt Try.prog 49 1 1 := ⟨_, _, 6, Try.underlying49, rfl, by kernel_rfl, rfl⟩
theorem fa_palaver_palaverlaw27_Act_2 : fieldAt Try.prog 49 2 8 := ⟨_, _, 19, Try.underlying49, rfl, by kernel_rfl, rfl⟩
theorem sz_palaver_palaverref27_Client : (Try.prog.info? 32).map (·.size) = some 5 := by kernel_rfl
theorem zr_palaver_palaverref27_Client : (Try.prog.info? 32).bind (·.zero) = some (.agg #[.int .u8 0, .int .i64 0, .slice none 0 0, .bool false, .int .u8 0]) := by kernel_rfl
theorem nf_palaver_palaverref27_Client : (Try.prog.info? 32).map (fun i => (i.zero, i.size, i.bytes)) = some (some (.agg #[.int .u8 0, .int .i64 0, .slice none 0 0, .bool false, .int .u8 0]), 5, 48) := by kernel_rfl
theorem fa_palaver_palaverref27_Client_0 : fieldAt Try.prog 32 0 0 := ⟨_, _, 0, Try.underlying32, rfl, by kernel_rfl, rfl⟩
theorem fa_palaver_palaverref27_Client_1 : fieldAt Try.prog 32 1 1 := ⟨_, _, 0, Try.underlying32, rfl, by kernel_rfl, rfl⟩
theorem fa_palaver_palaverref27_Client_2 : fieldAt Try.prog 32 2 2 := ⟨_, _, 0, Try.underlying32, rfl, by kernel_rfl, rfl⟩
theorem fa_palaver_palaverref27_Client_3 : fieldAt Try.prog 32 3 3 := ⟨_, _, 0, Try.underlying32, rfl, by kernel_rfl, rfl⟩
theorem fa_palaver_palaverref27_Client_4 : fieldAt Try.prog 32 4 4 := ⟨_, _, 0, Try.underlying32, rfl, by kernel_rfl, rfl⟩
theorem sz_uint32 : (Try.prog.info? 34).map (·.size) = some 1 := by kernel_rfl
theorem zr_uint32 : (Try.prog.info? 34).bind (·.zero) = some (.int .u32 0) := by kernel_rfl
theorem nf_uint32 : (Try.prog.info? 34).map (fun i => (i.zero, i.size, i.bytes)) = some (some (.int .u32 0), 1, 4) := by kernel_rfl
theorem sz_uint8 : (Try.prog.info? 5).map (·.size) = some 1 := by kernel_rfl
theorem zr_uint8 : (Try.prog.info? 5).bind (·.zero) = some (.int .u8 0) := by kernel_rfl
theorem nf_uint8 : (Try.prog.info? 5).map (fun i => (i.zero, i.size, i.bytes)) = some (some (.int .u8 0), 1, 1) := by kernel_rfl
end Go.Proofs.Yteiaiilfekojfaa.Sx
