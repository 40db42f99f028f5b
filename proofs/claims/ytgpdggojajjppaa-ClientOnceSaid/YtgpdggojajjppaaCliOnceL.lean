/- The law ClientOnce walked. Conditions: what the arguments' types say. -/
import Derived.Test.YtgpdggojajjppaaCliGreat
import Derived.Test.YtgpdggojajjppaaCliNilL
import Derived.Test.YtgpdggojajjppaaCliHear
import Derived.Deep.LoopGhost
import Derived.Deep.DeepCutAuto
import Derived.Deep.CutBlock
namespace Go.Proofs.Ytgpdggojajjppaa.Cli
open Go.RowKit Wire Cmd DrawInv

theorem rows_range {α : Type} {w : World} {A : Option Addr} {sz : Nat} {cells : α → List Value} {l : List α} (h : Rows w A sz cells l) {k : Nat} {x : α} (hk : l[k]? = some x) {ad : Addr} (hA : A = some ad) (o : Nat) (part : List Value) (ho : 0 < o) (hp : ((cells x).drop o).take part.length = part) :
    w.rangeAt (ad.add (k * sz)).block ((ad.add (k * sz)).off + o) part := by
  obtain ⟨ad', e, _, _, h1⟩ := h.at_ hk
  have : ad' = ad := by rw [hA] at e; exact (Option.some.inj e).symm
  subst this
  intro j v hj
  have hjl : j < part.length := (List.getElem?_eq_some_iff.1 hj).1
  have hv : (cells x)[o + j - 1 + 1]? = some v := by
    rw [← hp, List.getElem?_take, if_pos hjl, List.getElem?_drop] at hj
    rw [show o + j - 1 + 1 = o + j by omega]; exact hj
  have := h1 (o + j - 1) v hv
  rw [show (ad'.add (k * sz)).off + (o + j - 1 + 1) = (ad'.add (k * sz)).off + o + j by omega] at this
  exact this
theorem range_below {w w' : World} {B b o : Nat} {cs : List Value} (h : w.rangeAt b o cs) (hb : Below B w w') (hlt : b < B) : w'.rangeAt b o cs := fun j v hj => (hb.cell (by exact hlt)).trans (h j v hj)
structure OnceInv (id m : Nat) (x : Cl) (seq took : Nat) : Prop where
  fits : x.Fits
  hid : x.id = id
  hn : x.n = m
  hs : x.seq = seq
  hw : x.waits = true → x.cmd.seq = seq ∧ x.cmd.client = id ∧ took + 1 = seq
  hnw : x.waits = false → took = seq
theorem once_inv {id m : Nat} {x : Cl} {seq took : Nat} (h : OnceInv id m x seq took) (hs : seq ≤ 300) (c : Cm) (hc : c.Fits) :
    (x.waits = true ∧ invokeC x c = (x, lt0, 13)) ∨ (x.waits = false ∧ ∃ f, (f : Nat) ≠ 0 ∧ f ≠ 13 ∧ invokeC x c = (x, lt0, f)) ∨
    (x.waits = false ∧ ∃ x', invokeC x c = (x', askL x', 0) ∧ x'.waits = true ∧ OnceInv id m x' (seq + 1) took) := by
  obtain ⟨⟨f1, f2, f3, f4, f5, f6⟩, h2, h3, h4, h5, h6⟩ := h
  unfold invokeC
  cases hw : x.waits
  · simp only [Bool.false_eq_true, if_false]
    rw [if_neg (by omega)]
    cases hm : mayB (stamp x c)
    · exact .inr (.inl ⟨by trivial, 2, by omega, by omega, rfl⟩)
    · refine .inr (.inr ⟨trivial, _, rfl, rfl, ⟨⟨f1, f2, f3, f4, (show x.seq + 1 < 4294967296 by omega), ⟨(show x.id < 256 by omega), (show x.seq + 1 < 4294967296 by omega), hc.h3, hc.h4, hc.h5, hc.h6, hc.h7⟩⟩, h2, h3, (show x.seq + 1 = seq + 1 by omega), fun _ => ⟨(show x.seq + 1 = seq + 1 by omega), h2, (show took + 1 = seq + 1 by have := h6 hw; omega)⟩, fun h => by cases h⟩⟩)
  · exact .inl ⟨rfl, rfl⟩
theorem once_nud {id m : Nat} {x : Cl} {seq took : Nat} (h : OnceInv id m x seq took) :
    (x.waits = false ∧ nudgeC x = (x, lt0, 13)) ∨ (x.waits = true ∧ ∃ x', nudgeC x = (x', askL x', 0) ∧ x'.waits = true ∧ x'.cmd = x.cmd ∧ OnceInv id m x' seq took) := by
  obtain ⟨⟨f1, f2, f3, f4, f5, f6⟩, h2, h3, h4, h5, h6⟩ := h
  unfold nudgeC
  cases hw : x.waits
  · exact .inl ⟨rfl, rfl⟩
  · exact .inr ⟨by trivial, _, rfl, by first | rfl | exact hw, rfl, ⟨⟨f1, f2, f3, Nat.mod_lt _ (by omega), f5, f6⟩, h2, h3, h4, fun _ => h5 hw, fun h => by cases h⟩⟩
theorem once_hear {id m : Nat} {x : Cl} {seq took : Nat} (h : OnceInv id m x seq took) (l : Lt) :
    (hearC x l = (x, lt0, false, (0, []), false)) ∨ (x.waits = true ∧ ∃ x', hearC x l = (x', askL x', true, (0, []), false) ∧ x'.waits = true ∧ x'.cmd = x.cmd ∧ OnceInv id m x' seq took) ∨
    (x.waits = true ∧ l.kind = 2 ∧ l.code ≠ 3 ∧ l.cmd.seq = x.cmd.seq ∧ ∃ x', hearC x l = (x', lt0, false, (l.code, l.text), true) ∧ x'.waits = false ∧ OnceInv id m x' seq (took + 1)) := by
  obtain ⟨⟨f1, f2, f3, f4, f5, f6⟩, h2, h3, h4, h5, h6⟩ := h
  unfold hearC
  cases hf : forB x l
  · exact .inl rfl
  · unfold forB at hf
    simp only [Bool.and_eq_true, decide_eq_true_eq] at hf
    obtain ⟨⟨⟨q1, q2⟩, q3⟩, q4, q5⟩ := hf
    simp only [Bool.true_eq_false, if_false]
    by_cases h7 : l.kind = 3 ∧ l.node < x.n
    · rw [if_pos h7]
      exact .inr (.inl ⟨q1, _, rfl, q1, rfl, ⟨⟨f1, f2, f3, h7.2, f5, f6⟩, h2, h3, h4, h5, h6⟩⟩)
    · rw [if_neg h7]
      by_cases h8 : l.kind = 2 ∧ l.code ≠ 3
      · rw [if_pos h8]
        have hh := h5 q1
        exact .inr (.inr ⟨q1, h8.1, h8.2, q5, _, rfl, rfl, ⟨⟨f1, f2, f3, f4, f5, cm0_ok⟩, h2, h3, h4, fun h => by (try cases h), fun _ => by show took + 1 = seq; omega⟩⟩)
      · rw [if_neg h8]
        exact .inl rfl
def OnceAt (id m ln g : Nat) (w : World) (gk : Nat) (v9 v10 v11 : Value) (wr : World) : Prop :=
  ∃ (k seq took : Nat) (x : Cl), k + gk = ln ∧ v11 = .int .i64 (k : Int) ∧ v9 = .int .u32 (seq : Int) ∧ v10 = .int .u32 (took : Int) ∧ ClAt wr g x ∧ Hid (OnceInv id m x seq took) ∧ seq ≤ k ∧ Below w.heap.size w wr
/-- What holds behind an act: what was asked, if anything; what waited waits still, or not at all. -/
def OnceCut (id m k : Nat) (was : Cm) (waited : Bool) (g gw go : Nat) (w : World) (s9 s10 s15 : Value) (wx : World) : Prop :=
  ∃ (seq took : Nat) (x : Cl) (out : Lt) (asks : Bool), s9 = .int .u32 (seq : Int) ∧ s10 = .int .u32 (took : Int) ∧ s15 = .bool asks ∧ ClAt wx g x ∧ Hid (OnceInv id m x seq took) ∧ seq ≤ k + 1 ∧ Blk wx gw 36 (cmC was) ∧ Blk wx go 47 (ltC out) ∧ Below w.heap.size w wx ∧
    Hid (asks = true → out = askL x ∧ x.waits = true) ∧ Hid (waited = true → x.waits = true → was = x.cmd)
set_option linter.unusedSimpArgs false in
set_option linter.unusedVariables false in
set_option maxRecDepth 100000 in
set_option maxHeartbeats 32000000 in
theorem conce_any (id : Nat) (hid : id < 256) (n : Int) (l : List Ac) (ln : Nat) (hln : ln = l.length) (hQ : ∀ x ∈ l, x.Fits) (hl : l.length ≤ 9223372036854775807) (A : Option Addr) (cl : Nat) (w : World) (hA0 : Rows w A 28 acC l) :
    Calls Try.prog 5 #[.int .u8 (id : Int), .int .i64 n, .slice A ln cl] w fun e w' => e = .returned (.bool true) ∧ Below w.heap.size w w' := by
  have HG := Lib.hid (fun W h => cgreat_any l ln hln hQ hl A cl W h)
  have HLN := Lib.hid hln
  clear hln hl
  go_enter Try.func5, Try.ntmps5
  go_wp2_with fail
  refine (HG.out w hA0).mono ?_; rintro e w1 ⟨he, B1⟩
  have bw := B1
  clear B1 HG
  cases he
  rotate_left
  · go_wp2_with fail
    refine (wakes_any _).mono ?_; rintro e w2 ⟨rfl, B2⟩
    have bz := bw.trans (B2.mono bw.size)
    go_wp2_with fail
    go_ret
    exact ⟨rfl, bz⟩
  rename_i h200
  by_cases h1 : 4 ≤ (id : Int)
  · go_wp2_with fail
    refine (wakes_any _).mono ?_; rintro e w2 ⟨rfl, B2⟩
    have bz := bw.trans (B2.mono bw.size)
    go_wp2_with fail
    go_ret
    exact ⟨rfl, bz⟩
  by_cases h2 : n < 1
  · go_wp2_with fail
    refine (wakes_any _).mono ?_; rintro e w2 ⟨rfl, B2⟩
    have bz := bw.trans (B2.mono bw.size)
    go_wp2_with fail
    go_ret
    exact ⟨rfl, bz⟩
  by_cases h3 : 7 < n
  · go_wp2_with fail
    refine (wakes_any _).mono ?_; rintro e w2 ⟨rfl, B2⟩
    have bz := bw.trans (B2.mono bw.size)
    go_wp2_with fail
    go_ret
    exact ⟨rfl, bz⟩
  obtain ⟨m, rfl⟩ := Int.eq_ofNat_of_zero_le (show 0 ≤ n by omega)
  have m1 : 1 ≤ m := by omega
  have m7 : m ≤ 7 := by omega
  have hi4 : id < 4 := by omega
  have HN := Lib.hid (fun W => new_any id m hi4 m1 m7 W)
  have hwid : IntKind.u8.wrap (16 + (id : Int)) = 16 + (id : Int) := by rw [IntKind.wrap_u8]; omega
  have H2 := Lib.hid h200
  clear h200
  go_wp2_with fail
  refine (HN.out w1).mono ?_; rintro e w2 ⟨rfl, rfl⟩
  have hc : ClAt (w1.alloc (.cells (clC (cl0 id m)) 97)) w1.heap.size (cl0 id m) := Blk.new w1 97 (clC (cl0 id m))
  have bw2 := bw.alloc bw.size (.cells (clC (cl0 id m)) 97)
  have hw1 := bw.size
  obtain ⟨g, hg⟩ : ∃ g, g = w1.heap.size := ⟨_, rfl⟩
  have le_g : w.heap.size ≤ g := by omega
  rw [← hg] at hc ⊢
  generalize w1.alloc (.cells (clC (cl0 id m)) 97) = w2 at *
  clear hg HN bw hw1
  go_wp2_with fail
  go_loopg [9, 10, 11] ln (fun gk v9 v10 v11 wr => OnceAt id m ln g w gk v9 v10 v11 wr)
  case atStart => exact ⟨0, 0, 0, cl0 id m, by omega, rfl, rfl, rfl, hc, ⟨cl0_fits hi4 m1 m7, rfl, rfl, rfl, (fun h => by cases h), fun _ => rfl⟩, by omega, bw2⟩
  case round =>
    clear hc bw2
    obtain ⟨k, seq, took, x, hk, rfl, rfl, rfl, hc, HI, hsk, bw⟩ := hrel
    by_cases h4 : k < ln
    · have hk4 : (k : Int) < (ln : Int) := by omega
      obtain ⟨a0, ha⟩ : ∃ x, l[k]? = some x := ⟨_, List.getElem?_eq_getElem (by rw [← HLN.out]; exact h4)⟩
      have haf := hQ a0 (List.mem_of_getElem? ha)
      obtain ⟨ad, rfl, hadl, z0, z1⟩ := hA0.at_ ha
      have rX := rows_range hA0 ha rfl 1 (cmC a0.x).toList (by omega) rfl
      have rL := rows_range hA0 ha rfl 8 (ltC a0.l).toList (by omega) rfl
      have hb0 : (ad.add (k * 28)).block < w.heap.size := by rw [block_of_add]; exact hadl
      obtain ⟨d, ⟨xa, xb, xk, xs, xt, xu, xz⟩, ⟨ls, ld, lk, lbn, lbr, lba, lsl, lno, lv, lvo, lit, ⟨ya, yb, yk, ys, yt, yu, yz⟩, lco, lte⟩⟩ := a0
      have p0 := z0 _ rfl
      clear z0 z1 ha hA0
      have HIV := Lib.hid (once_inv HI.out (by have := H2.out; omega) _ haf.h2)
      have HNU := Lib.hid (once_nud HI.out)
      have HHE := Lib.hid (once_hear HI.out ⟨ls, ld, lk, lbn, lbr, lba, lsl, lno, lv, lvo, lit, ⟨ya, yb, yk, ys, yt, yu, yz⟩, lco, lte⟩)
      have HXF := Lib.hid HI.out.fits
      have HCF := Lib.hid haf.h2
      have HLF := Lib.hid haf.h3
      obtain ⟨waited, hwd⟩ : ∃ b, b = x.waits := ⟨_, rfl⟩
      obtain ⟨was, hws⟩ : ∃ c, c = (waitsC x).1 := ⟨_, rfl⟩
      have HWS : Hid (waited = true → was = x.cmd) := fun h => by rw [hws]; unfold waitsC; rw [← hwd, h]; rfl
      have e2 : (waitsC x).2 = waited := by unfold waitsC; rw [hwd]; cases x.waits <;> rfl
      have HWA := waits_any g x wr hc
      rw [← hws, e2] at HWA
      have HWA2 := HWA
      clear HWA
      have HWA := Lib.hid HWA2
      clear HWA2
      have HWD := Lib.hid hwd
      clear haf hws e2 hwd
      obtain ⟨va, vb, vk, vs, vt, vu, vz⟩ := was
      unfold cmV cmC at HWA
      dsimp only at HWA d
      go_wp2_with fail
      refine HWA.out.mono ?_; rintro e w3 ⟨rfl, B3⟩
      clear HWA
      have hc : ClAt w3 g x := Blk.below hc B3 (Blk.lt hc)
      have bw := bw.trans (B3.mono bw.size)
      clear B3
      have lt1_0 := Blk.lt hc
      have lt1_w := bw.size
      have kn := Blk.new w3 36 #[.int .u8 0, .int .u32 0, .int .u8 0, .string ⟨#[]⟩, .string ⟨#[]⟩, .string ⟨#[]⟩, .int .u8 0]
      obtain ⟨gw, hgw⟩ : ∃ g, g = w3.heap.size := ⟨_, rfl⟩
      obtain ⟨w4, hst, n_hc, hv, n_bw⟩ : ∃ w4, (Instr.storeAt 36 (.pointer (some ⟨w3.heap.size, 0, none⟩)) (.agg #[.int .u8 (va : Int), .int .u32 (vb : Int), .int .u8 (vk : Int), .string ⟨vs.toArray⟩, .string ⟨vt.toArray⟩, .string ⟨vu.toArray⟩, .int .u8 (vz : Int)])).run Try.prog (w3.alloc (.cells #[.int .u8 0, .int .u32 0, .int .u8 0, .string ⟨#[]⟩, .string ⟨#[]⟩, .string ⟨#[]⟩, .int .u8 0] 36)) = .ok () w4 ∧ ClAt w4 g x ∧ Blk w4 gw 36 #[.int .u8 (va : Int), .int .u32 (vb : Int), .int .u8 (vk : Int), .string ⟨vs.toArray⟩, .string ⟨vt.toArray⟩, .string ⟨vu.toArray⟩, .int .u8 (vz : Int)] ∧ Below w.heap.size w w4 :=
        ⟨_, blk_store kn (by rfl) size_cmd (by rfl), Blk.setRowFar (Blk.alloc hc _) (by omega), hgw ▸ kn.setRow, below_setRow (bw.alloc bw.size _) (by omega)⟩
      have ne_gw_g : gw ≠ g := by omega
      have le_gw : w.heap.size ≤ gw := by omega
      clear kn bw hc lt1_0 lt1_w
      have hc := n_hc
      have bw := n_bw
      clear n_bw n_hc
      go_upto_region 11 with (refine wpList_store (by rfl) (.tmp 12) (.tmp 62) (by rfl) (by rfl) (by rfl) hst ?_)
      rw [← hgw]
      clear hst hgw
      go_upto_region 12 with fail
      have lt2_0 := Blk.lt hc
      have lt2_1 := Blk.lt hv
      have lt2_w := bw.size
      have hc : ClAt (w4.alloc (.cells #[.int .u8 0, .int .u8 0, .int .u8 0, .int .u64 0, .int .u8 0, .int .u64 0, .int .u64 0, .int .u8 0, .string ⟨#[]⟩, .slice none 0 0, .slice none 0 0, .int .u8 0, .int .u32 0, .int .u8 0, .string ⟨#[]⟩, .string ⟨#[]⟩, .string ⟨#[]⟩, .int .u8 0, .int .u8 0, .string ⟨#[]⟩] 47)) g x := Blk.alloc hc _
      have hv : Blk (w4.alloc (.cells #[.int .u8 0, .int .u8 0, .int .u8 0, .int .u64 0, .int .u8 0, .int .u64 0, .int .u64 0, .int .u8 0, .string ⟨#[]⟩, .slice none 0 0, .slice none 0 0, .int .u8 0, .int .u32 0, .int .u8 0, .string ⟨#[]⟩, .string ⟨#[]⟩, .string ⟨#[]⟩, .int .u8 0, .int .u8 0, .string ⟨#[]⟩] 47)) gw 36 #[.int .u8 (va : Int), .int .u32 (vb : Int), .int .u8 (vk : Int), .string ⟨vs.toArray⟩, .string ⟨vt.toArray⟩, .string ⟨vu.toArray⟩, .int .u8 (vz : Int)] := Blk.alloc hv _
      have ho := Blk.new w4 47 #[.int .u8 0, .int .u8 0, .int .u8 0, .int .u64 0, .int .u8 0, .int .u64 0, .int .u64 0, .int .u8 0, .string ⟨#[]⟩, .slice none 0 0, .slice none 0 0, .int .u8 0, .int .u32 0, .int .u8 0, .string ⟨#[]⟩, .string ⟨#[]⟩, .string ⟨#[]⟩, .int .u8 0, .int .u8 0, .string ⟨#[]⟩]
      have bw : Below w.heap.size w (w4.alloc (.cells #[.int .u8 0, .int .u8 0, .int .u8 0, .int .u64 0, .int .u8 0, .int .u64 0, .int .u64 0, .int .u8 0, .string ⟨#[]⟩, .slice none 0 0, .slice none 0 0, .int .u8 0, .int .u32 0, .int .u8 0, .string ⟨#[]⟩, .string ⟨#[]⟩, .string ⟨#[]⟩, .int .u8 0, .int .u8 0, .string ⟨#[]⟩] 47)) := bw.alloc bw.size _
      obtain ⟨go, hgo⟩ : ∃ g, g = w4.heap.size := ⟨_, rfl⟩
      rw [← hgo] at ho ⊢
      have ne_go_g : go ≠ g := by omega
      have ne_go_gw : go ≠ gw := by omega
      have le_go : w.heap.size ≤ go := by omega
      generalize w4.alloc (.cells #[.int .u8 0, .int .u8 0, .int .u8 0, .int .u64 0, .int .u8 0, .int .u64 0, .int .u64 0, .int .u8 0, .string ⟨#[]⟩, .slice none 0 0, .slice none 0 0, .int .u8 0, .int .u32 0, .int .u8 0, .string ⟨#[]⟩, .string ⟨#[]⟩, .string ⟨#[]⟩, .int .u8 0, .int .u8 0, .string ⟨#[]⟩] 47) = w5 at *
      clear hgo lt2_0 lt2_1 lt2_w
      have q0 : w5.cell? (ad.add (k * 28)) = _ := (bw.cell hb0).trans p0
      have rX5 := range_below rX bw hb0
      have rL5 := range_below rL bw hb0
      go_upto_block 2 with fail
      go_cut [9, 10, 15, 16, 17, 18, 19, 20, 21, 22, 23] (fun s9 s10 s15 s16 s17 s18 s19 s20 s21 s22 s23 wx => OnceCut id m k ⟨va, vb, vk, vs, vt, vu, vz⟩ waited g gw go w s9 s10 s15 wx)
      case first =>
        clear HXF
        have hF := HI.out.fits
        by_cases hd0 : d = 0
        · subst hd0
          clear HNU HHE HLF rL5 p0
          have hldX : (Instr.loadAt 36 (.pointer (some { block := (ad.add (k * 28)).block, off := (ad.add (k * 28)).off + 1 }))).run Try.prog w5 = .ok (.agg #[.int .u8 (xa : Int), .int .u32 (xb : Int), .int .u8 (xk : Int), .string ⟨xs.toArray⟩, .string ⟨xt.toArray⟩, .string ⟨xu.toArray⟩, .int .u8 (xz : Int)]) w5 := run_loadAt_mid (P := Try.prog) w5 _ _ 36 _ _ rX5 Try.underlying36 rfl (by kernel_rfl)
          have HC := invoke_any g x hF ⟨xa, xb, xk, xs, xt, xu, xz⟩ HCF.out w5 hc
          have HIX := HIV.out
          clear HIV rX5
          rcases HIX with ⟨hw, he⟩ | ⟨hw, f, hf0, hf13, he⟩ | ⟨hw, x', he, hw', hI'⟩
          · as_aux_lemma =>
            obtain rfl : waited = true := HWD.out.trans hw
            rw [he] at HC
            have HC : Calls Try.prog 18 #[.pointer (some ⟨g, 0, none⟩), .agg #[.int .u8 (xa : Int), .int .u32 (xb : Int), .int .u8 (xk : Int), .string ⟨xs.toArray⟩, .string ⟨xt.toArray⟩, .string ⟨xu.toArray⟩, .int .u8 (xz : Int)]] w5 fun e w' => e = .returned (.tuple #[.agg #[.int .u8 0, .int .u8 0, .int .u8 0, .int .u64 0, .int .u8 0, .int .u64 0, .int .u64 0, .int .u8 0, .string ⟨#[]⟩, .slice none 0 0, .slice none 0 0, .int .u8 0, .int .u32 0, .int .u8 0, .string ⟨#[]⟩, .string ⟨#[]⟩, .string ⟨#[]⟩, .int .u8 0, .int .u8 0, .string ⟨#[]⟩], .int .i64 13]) ∧ ClGo w5 g x w' := HC
            have HC := Lib.hid HC
            have HW := Lib.hid hw
            clear he hF hw
            go_wp2_with (refine wpList_load (by rfl) (.tmp 149) (by rfl) (by rfl) hldX ?_)
            refine HC.out.mono ?_; rintro e w6 ⟨rfl, hc6, G6⟩
            clear hldX HC hc
            have hc := hc6
            clear hc6
            have hv : Blk w6 gw 36 #[.int .u8 (va : Int), .int .u32 (vb : Int), .int .u8 (vk : Int), .string ⟨vs.toArray⟩, .string ⟨vt.toArray⟩, .string ⟨vu.toArray⟩, .int .u8 (vz : Int)] := Blk.grown hv G6 (fun he => by have := Option.some.inj he; omega)
            have ho : Blk w6 go 47 #[.int .u8 0, .int .u8 0, .int .u8 0, .int .u64 0, .int .u8 0, .int .u64 0, .int .u64 0, .int .u8 0, .string ⟨#[]⟩, .slice none 0 0, .slice none 0 0, .int .u8 0, .int .u32 0, .int .u8 0, .string ⟨#[]⟩, .string ⟨#[]⟩, .string ⟨#[]⟩, .int .u8 0, .int .u8 0, .string ⟨#[]⟩] := Blk.grown ho G6 (fun he => by have := Option.some.inj he; omega)
            have bw := bw.grown G6 bw.size (fun k hk => by cases hk; omega)
            clear G6
            have lt3_0 := Blk.lt hc
            have lt3_1 := Blk.lt hv
            have lt3_2 := Blk.lt ho
            have lt3_w := bw.size
            have kn := Blk.new w6 47 #[.int .u8 0, .int .u8 0, .int .u8 0, .int .u64 0, .int .u8 0, .int .u64 0, .int .u64 0, .int .u8 0, .string ⟨#[]⟩, .slice none 0 0, .slice none 0 0, .int .u8 0, .int .u32 0, .int .u8 0, .string ⟨#[]⟩, .string ⟨#[]⟩, .string ⟨#[]⟩, .int .u8 0, .int .u8 0, .string ⟨#[]⟩]
            obtain ⟨gi, hgi⟩ : ∃ g, g = w6.heap.size := ⟨_, rfl⟩
            obtain ⟨w7, hst, n_hc, n_hv, n_ho, hi, n_bw⟩ : ∃ w7, (Instr.storeAt 47 (.pointer (some ⟨w6.heap.size, 0, none⟩)) (.agg #[.int .u8 0, .int .u8 0, .int .u8 0, .int .u64 0, .int .u8 0, .int .u64 0, .int .u64 0, .int .u8 0, .string ⟨#[]⟩, .slice none 0 0, .slice none 0 0, .int .u8 0, .int .u32 0, .int .u8 0, .string ⟨#[]⟩, .string ⟨#[]⟩, .string ⟨#[]⟩, .int .u8 0, .int .u8 0, .string ⟨#[]⟩])).run Try.prog (w6.alloc (.cells #[.int .u8 0, .int .u8 0, .int .u8 0, .int .u64 0, .int .u8 0, .int .u64 0, .int .u64 0, .int .u8 0, .string ⟨#[]⟩, .slice none 0 0, .slice none 0 0, .int .u8 0, .int .u32 0, .int .u8 0, .string ⟨#[]⟩, .string ⟨#[]⟩, .string ⟨#[]⟩, .int .u8 0, .int .u8 0, .string ⟨#[]⟩] 47)) = .ok () w7 ∧ ClAt w7 g x ∧ Blk w7 gw 36 #[.int .u8 (va : Int), .int .u32 (vb : Int), .int .u8 (vk : Int), .string ⟨vs.toArray⟩, .string ⟨vt.toArray⟩, .string ⟨vu.toArray⟩, .int .u8 (vz : Int)] ∧ Blk w7 go 47 #[.int .u8 0, .int .u8 0, .int .u8 0, .int .u64 0, .int .u8 0, .int .u64 0, .int .u64 0, .int .u8 0, .string ⟨#[]⟩, .slice none 0 0, .slice none 0 0, .int .u8 0, .int .u32 0, .int .u8 0, .string ⟨#[]⟩, .string ⟨#[]⟩, .string ⟨#[]⟩, .int .u8 0, .int .u8 0, .string ⟨#[]⟩] ∧ Blk w7 gi 47 #[.int .u8 0, .int .u8 0, .int .u8 0, .int .u64 0, .int .u8 0, .int .u64 0, .int .u64 0, .int .u8 0, .string ⟨#[]⟩, .slice none 0 0, .slice none 0 0, .int .u8 0, .int .u32 0, .int .u8 0, .string ⟨#[]⟩, .string ⟨#[]⟩, .string ⟨#[]⟩, .int .u8 0, .int .u8 0, .string ⟨#[]⟩] ∧ Below w.heap.size w w7 :=
              ⟨_, blk_store kn (by rfl) size_lt (by rfl), Blk.setRowFar (Blk.alloc hc _) (by omega), Blk.setRowFar (Blk.alloc hv _) (by omega), Blk.setRowFar (Blk.alloc ho _) (by omega), hgi ▸ kn.setRow, below_setRow (bw.alloc bw.size _) (by omega)⟩
            have ne_gi_g : gi ≠ g := by omega
            have ne_gi_gw : gi ≠ gw := by omega
            have ne_gi_go : gi ≠ go := by omega
            have le_gi : w.heap.size ≤ gi := by omega
            clear kn bw hc hv ho lt3_0 lt3_1 lt3_2 lt3_w
            have hc := n_hc
            have hv := n_hv
            have ho := n_ho
            have bw := n_bw
            clear n_bw n_hc n_hv n_ho
            go_wp2_with (refine wpList_store (by rfl) (.tmp 16) (.tmp 152) (by rfl) (by rfl) (by rfl) hst ?_)
            go_meet
            exact ⟨seq, took, x, lt0, false, rfl, rfl, rfl, hc, HI, by omega, hv, ho, bw, (fun h => by cases h), fun _ _ => HWS.out (by trivial)⟩
          · as_aux_lemma =>
            obtain rfl : waited = false := HWD.out.trans hw
            rw [he] at HC
            have HC : Calls Try.prog 18 #[.pointer (some ⟨g, 0, none⟩), .agg #[.int .u8 (xa : Int), .int .u32 (xb : Int), .int .u8 (xk : Int), .string ⟨xs.toArray⟩, .string ⟨xt.toArray⟩, .string ⟨xu.toArray⟩, .int .u8 (xz : Int)]] w5 fun e w' => e = .returned (.tuple #[.agg #[.int .u8 0, .int .u8 0, .int .u8 0, .int .u64 0, .int .u8 0, .int .u64 0, .int .u64 0, .int .u8 0, .string ⟨#[]⟩, .slice none 0 0, .slice none 0 0, .int .u8 0, .int .u32 0, .int .u8 0, .string ⟨#[]⟩, .string ⟨#[]⟩, .string ⟨#[]⟩, .int .u8 0, .int .u8 0, .string ⟨#[]⟩], .int .i64 (f : Int)]) ∧ ClGo w5 g x w' := HC
            have HC := Lib.hid HC
            have HW := Lib.hid hw
            have hfa : ((f : Int) == 13) = false := beq_eq_false_iff_ne.2 (by omega)
            have hfb : ((f : Int) == 0) = false := beq_eq_false_iff_ne.2 (by omega)
            clear hf0 hf13
            clear he hF hw
            go_wp2_with (refine wpList_load (by rfl) (.tmp 149) (by rfl) (by rfl) hldX ?_)
            refine HC.out.mono ?_; rintro e w6 ⟨rfl, hc6, G6⟩
            clear hldX HC hc
            have hc := hc6
            clear hc6
            have hv : Blk w6 gw 36 #[.int .u8 (va : Int), .int .u32 (vb : Int), .int .u8 (vk : Int), .string ⟨vs.toArray⟩, .string ⟨vt.toArray⟩, .string ⟨vu.toArray⟩, .int .u8 (vz : Int)] := Blk.grown hv G6 (fun he => by have := Option.some.inj he; omega)
            have ho : Blk w6 go 47 #[.int .u8 0, .int .u8 0, .int .u8 0, .int .u64 0, .int .u8 0, .int .u64 0, .int .u64 0, .int .u8 0, .string ⟨#[]⟩, .slice none 0 0, .slice none 0 0, .int .u8 0, .int .u32 0, .int .u8 0, .string ⟨#[]⟩, .string ⟨#[]⟩, .string ⟨#[]⟩, .int .u8 0, .int .u8 0, .string ⟨#[]⟩] := Blk.grown ho G6 (fun he => by have := Option.some.inj he; omega)
            have bw := bw.grown G6 bw.size (fun k hk => by cases hk; omega)
            clear G6
            have lt3_0 := Blk.lt hc
            have lt3_1 := Blk.lt hv
            have lt3_2 := Blk.lt ho
            have lt3_w := bw.size
            have kn := Blk.new w6 47 #[.int .u8 0, .int .u8 0, .int .u8 0, .int .u64 0, .int .u8 0, .int .u64 0, .int .u64 0, .int .u8 0, .string ⟨#[]⟩, .slice none 0 0, .slice none 0 0, .int .u8 0, .int .u32 0, .int .u8 0, .string ⟨#[]⟩, .string ⟨#[]⟩, .string ⟨#[]⟩, .int .u8 0, .int .u8 0, .string ⟨#[]⟩]
            obtain ⟨gi, hgi⟩ : ∃ g, g = w6.heap.size := ⟨_, rfl⟩
            obtain ⟨w7, hst, n_hc, n_hv, n_ho, hi, n_bw⟩ : ∃ w7, (Instr.storeAt 47 (.pointer (some ⟨w6.heap.size, 0, none⟩)) (.agg #[.int .u8 0, .int .u8 0, .int .u8 0, .int .u64 0, .int .u8 0, .int .u64 0, .int .u64 0, .int .u8 0, .string ⟨#[]⟩, .slice none 0 0, .slice none 0 0, .int .u8 0, .int .u32 0, .int .u8 0, .string ⟨#[]⟩, .string ⟨#[]⟩, .string ⟨#[]⟩, .int .u8 0, .int .u8 0, .string ⟨#[]⟩])).run Try.prog (w6.alloc (.cells #[.int .u8 0, .int .u8 0, .int .u8 0, .int .u64 0, .int .u8 0, .int .u64 0, .int .u64 0, .int .u8 0, .string ⟨#[]⟩, .slice none 0 0, .slice none 0 0, .int .u8 0, .int .u32 0, .int .u8 0, .string ⟨#[]⟩, .string ⟨#[]⟩, .string ⟨#[]⟩, .int .u8 0, .int .u8 0, .string ⟨#[]⟩] 47)) = .ok () w7 ∧ ClAt w7 g x ∧ Blk w7 gw 36 #[.int .u8 (va : Int), .int .u32 (vb : Int), .int .u8 (vk : Int), .string ⟨vs.toArray⟩, .string ⟨vt.toArray⟩, .string ⟨vu.toArray⟩, .int .u8 (vz : Int)] ∧ Blk w7 go 47 #[.int .u8 0, .int .u8 0, .int .u8 0, .int .u64 0, .int .u8 0, .int .u64 0, .int .u64 0, .int .u8 0, .string ⟨#[]⟩, .slice none 0 0, .slice none 0 0, .int .u8 0, .int .u32 0, .int .u8 0, .string ⟨#[]⟩, .string ⟨#[]⟩, .string ⟨#[]⟩, .int .u8 0, .int .u8 0, .string ⟨#[]⟩] ∧ Blk w7 gi 47 #[.int .u8 0, .int .u8 0, .int .u8 0, .int .u64 0, .int .u8 0, .int .u64 0, .int .u64 0, .int .u8 0, .string ⟨#[]⟩, .slice none 0 0, .slice none 0 0, .int .u8 0, .int .u32 0, .int .u8 0, .string ⟨#[]⟩, .string ⟨#[]⟩, .string ⟨#[]⟩, .int .u8 0, .int .u8 0, .string ⟨#[]⟩] ∧ Below w.heap.size w w7 :=
              ⟨_, blk_store kn (by rfl) size_lt (by rfl), Blk.setRowFar (Blk.alloc hc _) (by omega), Blk.setRowFar (Blk.alloc hv _) (by omega), Blk.setRowFar (Blk.alloc ho _) (by omega), hgi ▸ kn.setRow, below_setRow (bw.alloc bw.size _) (by omega)⟩
            have ne_gi_g : gi ≠ g := by omega
            have ne_gi_gw : gi ≠ gw := by omega
            have ne_gi_go : gi ≠ go := by omega
            have le_gi : w.heap.size ≤ gi := by omega
            clear kn bw hc hv ho lt3_0 lt3_1 lt3_2 lt3_w
            have hc := n_hc
            have hv := n_hv
            have ho := n_ho
            have bw := n_bw
            clear n_bw n_hc n_hv n_ho
            go_wp2_with (refine wpList_store (by rfl) (.tmp 16) (.tmp 152) (by rfl) (by rfl) (by rfl) hst ?_)
            go_meet
            exact ⟨seq, took, x, lt0, false, rfl, rfl, rfl, hc, HI, by omega, hv, ho, bw, (fun h => by cases h), fun h => by cases h⟩
          · as_aux_lemma =>
            obtain rfl : waited = false := HWD.out.trans hw
            rw [he] at HC
            obtain ⟨out, hout⟩ : ∃ out, out = askL x' := ⟨_, rfl⟩
            rw [← hout] at HC
            obtain ⟨o0, o1, o2, o3, o4, o5, o6, o7, o8, o9, oA, ⟨oa, ob, ok, os, ot, ou, oz⟩, oB, oC⟩ := out
            obtain rfl : o9 = .slice none 0 0 := congrArg Lt.votes hout
            obtain rfl : oA = .slice none 0 0 := congrArg Lt.items hout
            have HOUT := Lib.hid hout
            clear hout
            have HC : Calls Try.prog 18 #[.pointer (some ⟨g, 0, none⟩), .agg #[.int .u8 (xa : Int), .int .u32 (xb : Int), .int .u8 (xk : Int), .string ⟨xs.toArray⟩, .string ⟨xt.toArray⟩, .string ⟨xu.toArray⟩, .int .u8 (xz : Int)]] w5 fun e w' => e = .returned (.tuple #[.agg #[.int .u8 (o0 : Int), .int .u8 (o1 : Int), .int .u8 (o2 : Int), .int .u64 (o3 : Int), .int .u8 (o4 : Int), .int .u64 (o5 : Int), .int .u64 (o6 : Int), .int .u8 (o7 : Int), .string ⟨o8.toArray⟩, .slice none 0 0, .slice none 0 0, .int .u8 (oa : Int), .int .u32 (ob : Int), .int .u8 (ok : Int), .string ⟨os.toArray⟩, .string ⟨ot.toArray⟩, .string ⟨ou.toArray⟩, .int .u8 (oz : Int), .int .u8 (oB : Int), .string ⟨oC.toArray⟩], .int .i64 0]) ∧ ClGo w5 g x' w' := HC
            have HC := Lib.hid HC
            have HW := Lib.hid hw
            have HI' := Lib.hid hI'
            have HW' := Lib.hid hw'
            clear hI' hw'
            have hsq : IntKind.u32.wrap ((seq : Int) + 1) = ((seq + 1 : Nat) : Int) := by rw [IntKind.wrap_u32]; have := H2.out; omega
            clear he hF hw
            go_wp2_with (refine wpList_load (by rfl) (.tmp 149) (by rfl) (by rfl) hldX ?_)
            refine HC.out.mono ?_; rintro e w6 ⟨rfl, hc6, G6⟩
            clear hldX HC hc
            have hc := hc6
            clear hc6
            have hv : Blk w6 gw 36 #[.int .u8 (va : Int), .int .u32 (vb : Int), .int .u8 (vk : Int), .string ⟨vs.toArray⟩, .string ⟨vt.toArray⟩, .string ⟨vu.toArray⟩, .int .u8 (vz : Int)] := Blk.grown hv G6 (fun he => by have := Option.some.inj he; omega)
            have ho : Blk w6 go 47 #[.int .u8 0, .int .u8 0, .int .u8 0, .int .u64 0, .int .u8 0, .int .u64 0, .int .u64 0, .int .u8 0, .string ⟨#[]⟩, .slice none 0 0, .slice none 0 0, .int .u8 0, .int .u32 0, .int .u8 0, .string ⟨#[]⟩, .string ⟨#[]⟩, .string ⟨#[]⟩, .int .u8 0, .int .u8 0, .string ⟨#[]⟩] := Blk.grown ho G6 (fun he => by have := Option.some.inj he; omega)
            have bw := bw.grown G6 bw.size (fun k hk => by cases hk; omega)
            clear G6
            have lt3_0 := Blk.lt hc
            have lt3_1 := Blk.lt hv
            have lt3_2 := Blk.lt ho
            have lt3_w := bw.size
            have kn := Blk.new w6 47 #[.int .u8 0, .int .u8 0, .int .u8 0, .int .u64 0, .int .u8 0, .int .u64 0, .int .u64 0, .int .u8 0, .string ⟨#[]⟩, .slice none 0 0, .slice none 0 0, .int .u8 0, .int .u32 0, .int .u8 0, .string ⟨#[]⟩, .string ⟨#[]⟩, .string ⟨#[]⟩, .int .u8 0, .int .u8 0, .string ⟨#[]⟩]
            obtain ⟨gi, hgi⟩ : ∃ g, g = w6.heap.size := ⟨_, rfl⟩
            obtain ⟨w7, hst, n_hc, n_hv, n_ho, hi, n_bw⟩ : ∃ w7, (Instr.storeAt 47 (.pointer (some ⟨w6.heap.size, 0, none⟩)) (.agg #[.int .u8 (o0 : Int), .int .u8 (o1 : Int), .int .u8 (o2 : Int), .int .u64 (o3 : Int), .int .u8 (o4 : Int), .int .u64 (o5 : Int), .int .u64 (o6 : Int), .int .u8 (o7 : Int), .string ⟨o8.toArray⟩, .slice none 0 0, .slice none 0 0, .int .u8 (oa : Int), .int .u32 (ob : Int), .int .u8 (ok : Int), .string ⟨os.toArray⟩, .string ⟨ot.toArray⟩, .string ⟨ou.toArray⟩, .int .u8 (oz : Int), .int .u8 (oB : Int), .string ⟨oC.toArray⟩])).run Try.prog (w6.alloc (.cells #[.int .u8 0, .int .u8 0, .int .u8 0, .int .u64 0, .int .u8 0, .int .u64 0, .int .u64 0, .int .u8 0, .string ⟨#[]⟩, .slice none 0 0, .slice none 0 0, .int .u8 0, .int .u32 0, .int .u8 0, .string ⟨#[]⟩, .string ⟨#[]⟩, .string ⟨#[]⟩, .int .u8 0, .int .u8 0, .string ⟨#[]⟩] 47)) = .ok () w7 ∧ ClAt w7 g x' ∧ Blk w7 gw 36 #[.int .u8 (va : Int), .int .u32 (vb : Int), .int .u8 (vk : Int), .string ⟨vs.toArray⟩, .string ⟨vt.toArray⟩, .string ⟨vu.toArray⟩, .int .u8 (vz : Int)] ∧ Blk w7 go 47 #[.int .u8 0, .int .u8 0, .int .u8 0, .int .u64 0, .int .u8 0, .int .u64 0, .int .u64 0, .int .u8 0, .string ⟨#[]⟩, .slice none 0 0, .slice none 0 0, .int .u8 0, .int .u32 0, .int .u8 0, .string ⟨#[]⟩, .string ⟨#[]⟩, .string ⟨#[]⟩, .int .u8 0, .int .u8 0, .string ⟨#[]⟩] ∧ Blk w7 gi 47 #[.int .u8 (o0 : Int), .int .u8 (o1 : Int), .int .u8 (o2 : Int), .int .u64 (o3 : Int), .int .u8 (o4 : Int), .int .u64 (o5 : Int), .int .u64 (o6 : Int), .int .u8 (o7 : Int), .string ⟨o8.toArray⟩, .slice none 0 0, .slice none 0 0, .int .u8 (oa : Int), .int .u32 (ob : Int), .int .u8 (ok : Int), .string ⟨os.toArray⟩, .string ⟨ot.toArray⟩, .string ⟨ou.toArray⟩, .int .u8 (oz : Int), .int .u8 (oB : Int), .string ⟨oC.toArray⟩] ∧ Below w.heap.size w w7 :=
              ⟨_, blk_store kn (by rfl) size_lt (by rfl), Blk.setRowFar (Blk.alloc hc _) (by omega), Blk.setRowFar (Blk.alloc hv _) (by omega), Blk.setRowFar (Blk.alloc ho _) (by omega), hgi ▸ kn.setRow, below_setRow (bw.alloc bw.size _) (by omega)⟩
            have ne_gi_g : gi ≠ g := by omega
            have ne_gi_gw : gi ≠ gw := by omega
            have ne_gi_go : gi ≠ go := by omega
            have le_gi : w.heap.size ≤ gi := by omega
            clear kn bw hc hv ho lt3_0 lt3_1 lt3_2 lt3_w
            have hc := n_hc
            have hv := n_hv
            have ho := n_ho
            have bw := n_bw
            clear n_bw n_hc n_hv n_ho
            go_upto_region 27 with (refine wpList_store (by rfl) (.tmp 16) (.tmp 152) (by rfl) (by rfl) (by rfl) hst ?_)
            rw [← hgi]
            clear hst hgi
            have hld16 := blk_load (P := Try.prog) (ty := 47) hi Try.underlying47 rfl size_lt
            obtain ⟨w8, hst, n_hc, n_hv, n_hi, n_ho, n_bw⟩ : ∃ w8, (Instr.storeAt 47 (.pointer (some ⟨go, 0, none⟩)) (.agg #[.int .u8 (o0 : Int), .int .u8 (o1 : Int), .int .u8 (o2 : Int), .int .u64 (o3 : Int), .int .u8 (o4 : Int), .int .u64 (o5 : Int), .int .u64 (o6 : Int), .int .u8 (o7 : Int), .string ⟨o8.toArray⟩, .slice none 0 0, .slice none 0 0, .int .u8 (oa : Int), .int .u32 (ob : Int), .int .u8 (ok : Int), .string ⟨os.toArray⟩, .string ⟨ot.toArray⟩, .string ⟨ou.toArray⟩, .int .u8 (oz : Int), .int .u8 (oB : Int), .string ⟨oC.toArray⟩])).run Try.prog w7 = .ok () w8 ∧ ClAt w8 g x' ∧ Blk w8 gw 36 #[.int .u8 (va : Int), .int .u32 (vb : Int), .int .u8 (vk : Int), .string ⟨vs.toArray⟩, .string ⟨vt.toArray⟩, .string ⟨vu.toArray⟩, .int .u8 (vz : Int)] ∧ Blk w8 gi 47 #[.int .u8 (o0 : Int), .int .u8 (o1 : Int), .int .u8 (o2 : Int), .int .u64 (o3 : Int), .int .u8 (o4 : Int), .int .u64 (o5 : Int), .int .u64 (o6 : Int), .int .u8 (o7 : Int), .string ⟨o8.toArray⟩, .slice none 0 0, .slice none 0 0, .int .u8 (oa : Int), .int .u32 (ob : Int), .int .u8 (ok : Int), .string ⟨os.toArray⟩, .string ⟨ot.toArray⟩, .string ⟨ou.toArray⟩, .int .u8 (oz : Int), .int .u8 (oB : Int), .string ⟨oC.toArray⟩] ∧ Blk w8 go 47 #[.int .u8 (o0 : Int), .int .u8 (o1 : Int), .int .u8 (o2 : Int), .int .u64 (o3 : Int), .int .u8 (o4 : Int), .int .u64 (o5 : Int), .int .u64 (o6 : Int), .int .u8 (o7 : Int), .string ⟨o8.toArray⟩, .slice none 0 0, .slice none 0 0, .int .u8 (oa : Int), .int .u32 (ob : Int), .int .u8 (ok : Int), .string ⟨os.toArray⟩, .string ⟨ot.toArray⟩, .string ⟨ou.toArray⟩, .int .u8 (oz : Int), .int .u8 (oB : Int), .string ⟨oC.toArray⟩] ∧ Below w.heap.size w w8 :=
              ⟨_, blk_store ho (by rfl) size_lt (by rfl), Blk.setRowFar hc (by omega), Blk.setRowFar hv (by omega), Blk.setRowFar hi (by omega), Blk.setRow ho, below_setRow bw (by omega)⟩
            clear bw hc hv ho hi
            have hc := n_hc
            have hv := n_hv
            have ho := n_ho
            have hi := n_hi
            have bw := n_bw
            clear n_bw n_hc n_hv n_ho n_hi
            go_wp2_with (first | refine wpList_load (by rfl) (.tmp 16) (by rfl) (by rfl) hld16 ?_ | refine wpList_store (by rfl) (.tmp 14) (.tmp 162) (by rfl) (by rfl) (by rfl) hst ?_)
            go_meet
            exact ⟨seq + 1, took, x', ⟨o0, o1, o2, o3, o4, o5, o6, o7, o8, .slice none 0 0, .slice none 0 0, ⟨oa, ob, ok, os, ot, ou, oz⟩, oB, oC⟩, true, by go_num, rfl, rfl, hc, HI', by omega, hv, ho, bw, fun _ => ⟨HOUT.out, HW'.out⟩, (fun h => by cases h)⟩
        by_cases hd1 : d = 1
        · subst hd1
          clear hd0 HIV HHE HLF HCF rL5 rX5 p0
          have HC := nudge_any g x hF w5 hc
          have HIX := HNU.out
          clear HNU
          rcases HIX with ⟨hw, he⟩ | ⟨hw, x', he, hw', hcm, hI'⟩
          · as_aux_lemma =>
            obtain rfl : waited = false := HWD.out.trans hw
            rw [he] at HC
            have HC : Calls Try.prog 20 #[.pointer (some ⟨g, 0, none⟩)] w5 fun e w' => e = .returned (.tuple #[.agg #[.int .u8 0, .int .u8 0, .int .u8 0, .int .u64 0, .int .u8 0, .int .u64 0, .int .u64 0, .int .u8 0, .string ⟨#[]⟩, .slice none 0 0, .slice none 0 0, .int .u8 0, .int .u32 0, .int .u8 0, .string ⟨#[]⟩, .string ⟨#[]⟩, .string ⟨#[]⟩, .int .u8 0, .int .u8 0, .string ⟨#[]⟩], .int .i64 13]) ∧ ClGo w5 g x w' := HC
            have HC := Lib.hid HC
            clear he hF hw
            go_wp2_with fail
            refine HC.out.mono ?_; rintro e w6 ⟨rfl, hc6, G6⟩
            clear HC hc
            have hc := hc6
            clear hc6
            have hv : Blk w6 gw 36 #[.int .u8 (va : Int), .int .u32 (vb : Int), .int .u8 (vk : Int), .string ⟨vs.toArray⟩, .string ⟨vt.toArray⟩, .string ⟨vu.toArray⟩, .int .u8 (vz : Int)] := Blk.grown hv G6 (fun he => by have := Option.some.inj he; omega)
            have ho : Blk w6 go 47 #[.int .u8 0, .int .u8 0, .int .u8 0, .int .u64 0, .int .u8 0, .int .u64 0, .int .u64 0, .int .u8 0, .string ⟨#[]⟩, .slice none 0 0, .slice none 0 0, .int .u8 0, .int .u32 0, .int .u8 0, .string ⟨#[]⟩, .string ⟨#[]⟩, .string ⟨#[]⟩, .int .u8 0, .int .u8 0, .string ⟨#[]⟩] := Blk.grown ho G6 (fun he => by have := Option.some.inj he; omega)
            have bw := bw.grown G6 bw.size (fun k hk => by cases hk; omega)
            clear G6
            have lt3_0 := Blk.lt hc
            have lt3_1 := Blk.lt hv
            have lt3_2 := Blk.lt ho
            have lt3_w := bw.size
            have kn := Blk.new w6 47 #[.int .u8 0, .int .u8 0, .int .u8 0, .int .u64 0, .int .u8 0, .int .u64 0, .int .u64 0, .int .u8 0, .string ⟨#[]⟩, .slice none 0 0, .slice none 0 0, .int .u8 0, .int .u32 0, .int .u8 0, .string ⟨#[]⟩, .string ⟨#[]⟩, .string ⟨#[]⟩, .int .u8 0, .int .u8 0, .string ⟨#[]⟩]
            obtain ⟨gi, hgi⟩ : ∃ g, g = w6.heap.size := ⟨_, rfl⟩
            obtain ⟨w7, hst, n_hc, n_hv, n_ho, hi, n_bw⟩ : ∃ w7, (Instr.storeAt 47 (.pointer (some ⟨w6.heap.size, 0, none⟩)) (.agg #[.int .u8 0, .int .u8 0, .int .u8 0, .int .u64 0, .int .u8 0, .int .u64 0, .int .u64 0, .int .u8 0, .string ⟨#[]⟩, .slice none 0 0, .slice none 0 0, .int .u8 0, .int .u32 0, .int .u8 0, .string ⟨#[]⟩, .string ⟨#[]⟩, .string ⟨#[]⟩, .int .u8 0, .int .u8 0, .string ⟨#[]⟩])).run Try.prog (w6.alloc (.cells #[.int .u8 0, .int .u8 0, .int .u8 0, .int .u64 0, .int .u8 0, .int .u64 0, .int .u64 0, .int .u8 0, .string ⟨#[]⟩, .slice none 0 0, .slice none 0 0, .int .u8 0, .int .u32 0, .int .u8 0, .string ⟨#[]⟩, .string ⟨#[]⟩, .string ⟨#[]⟩, .int .u8 0, .int .u8 0, .string ⟨#[]⟩] 47)) = .ok () w7 ∧ ClAt w7 g x ∧ Blk w7 gw 36 #[.int .u8 (va : Int), .int .u32 (vb : Int), .int .u8 (vk : Int), .string ⟨vs.toArray⟩, .string ⟨vt.toArray⟩, .string ⟨vu.toArray⟩, .int .u8 (vz : Int)] ∧ Blk w7 go 47 #[.int .u8 0, .int .u8 0, .int .u8 0, .int .u64 0, .int .u8 0, .int .u64 0, .int .u64 0, .int .u8 0, .string ⟨#[]⟩, .slice none 0 0, .slice none 0 0, .int .u8 0, .int .u32 0, .int .u8 0, .string ⟨#[]⟩, .string ⟨#[]⟩, .string ⟨#[]⟩, .int .u8 0, .int .u8 0, .string ⟨#[]⟩] ∧ Blk w7 gi 47 #[.int .u8 0, .int .u8 0, .int .u8 0, .int .u64 0, .int .u8 0, .int .u64 0, .int .u64 0, .int .u8 0, .string ⟨#[]⟩, .slice none 0 0, .slice none 0 0, .int .u8 0, .int .u32 0, .int .u8 0, .string ⟨#[]⟩, .string ⟨#[]⟩, .string ⟨#[]⟩, .int .u8 0, .int .u8 0, .string ⟨#[]⟩] ∧ Below w.heap.size w w7 :=
              ⟨_, blk_store kn (by rfl) size_lt (by rfl), Blk.setRowFar (Blk.alloc hc _) (by omega), Blk.setRowFar (Blk.alloc hv _) (by omega), Blk.setRowFar (Blk.alloc ho _) (by omega), hgi ▸ kn.setRow, below_setRow (bw.alloc bw.size _) (by omega)⟩
            have ne_gi_g : gi ≠ g := by omega
            have ne_gi_gw : gi ≠ gw := by omega
            have ne_gi_go : gi ≠ go := by omega
            have le_gi : w.heap.size ≤ gi := by omega
            clear kn bw hc hv ho lt3_0 lt3_1 lt3_2 lt3_w
            have hc := n_hc
            have hv := n_hv
            have ho := n_ho
            have bw := n_bw
            clear n_bw n_hc n_hv n_ho
            go_upto_region 33 with (refine wpList_store (by rfl) (.tmp 18) (.tmp 168) (by rfl) (by rfl) (by rfl) hst ?_)
            rw [← hgi]
            clear hst hgi
            have hld16 := blk_load (P := Try.prog) (ty := 47) hi Try.underlying47 rfl size_lt
            obtain ⟨w8, hst, n_hc, n_hv, n_hi, n_ho, n_bw⟩ : ∃ w8, (Instr.storeAt 47 (.pointer (some ⟨go, 0, none⟩)) (.agg #[.int .u8 0, .int .u8 0, .int .u8 0, .int .u64 0, .int .u8 0, .int .u64 0, .int .u64 0, .int .u8 0, .string ⟨#[]⟩, .slice none 0 0, .slice none 0 0, .int .u8 0, .int .u32 0, .int .u8 0, .string ⟨#[]⟩, .string ⟨#[]⟩, .string ⟨#[]⟩, .int .u8 0, .int .u8 0, .string ⟨#[]⟩])).run Try.prog w7 = .ok () w8 ∧ ClAt w8 g x ∧ Blk w8 gw 36 #[.int .u8 (va : Int), .int .u32 (vb : Int), .int .u8 (vk : Int), .string ⟨vs.toArray⟩, .string ⟨vt.toArray⟩, .string ⟨vu.toArray⟩, .int .u8 (vz : Int)] ∧ Blk w8 gi 47 #[.int .u8 0, .int .u8 0, .int .u8 0, .int .u64 0, .int .u8 0, .int .u64 0, .int .u64 0, .int .u8 0, .string ⟨#[]⟩, .slice none 0 0, .slice none 0 0, .int .u8 0, .int .u32 0, .int .u8 0, .string ⟨#[]⟩, .string ⟨#[]⟩, .string ⟨#[]⟩, .int .u8 0, .int .u8 0, .string ⟨#[]⟩] ∧ Blk w8 go 47 #[.int .u8 0, .int .u8 0, .int .u8 0, .int .u64 0, .int .u8 0, .int .u64 0, .int .u64 0, .int .u8 0, .string ⟨#[]⟩, .slice none 0 0, .slice none 0 0, .int .u8 0, .int .u32 0, .int .u8 0, .string ⟨#[]⟩, .string ⟨#[]⟩, .string ⟨#[]⟩, .int .u8 0, .int .u8 0, .string ⟨#[]⟩] ∧ Below w.heap.size w w8 :=
              ⟨_, blk_store ho (by rfl) size_lt (by rfl), Blk.setRowFar hc (by omega), Blk.setRowFar hv (by omega), Blk.setRowFar hi (by omega), Blk.setRow ho, below_setRow bw (by omega)⟩
            clear bw hc hv ho hi
            have hc := n_hc
            have hv := n_hv
            have ho := n_ho
            have hi := n_hi
            have bw := n_bw
            clear n_bw n_hc n_hv n_ho n_hi
            go_wp2_with (first | refine wpList_load (by rfl) (.tmp 18) (by rfl) (by rfl) hld16 ?_ | refine wpList_store (by rfl) (.tmp 14) (.tmp 174) (by rfl) (by rfl) (by rfl) hst ?_)
            go_meet
            exact ⟨seq, took, x, lt0, false, rfl, rfl, rfl, hc, HI, by omega, hv, ho, bw, (fun h => by cases h), (fun h => by cases h)⟩
          · as_aux_lemma =>
            obtain rfl : waited = true := HWD.out.trans hw
            rw [he] at HC
            obtain ⟨out, hout⟩ : ∃ out, out = askL x' := ⟨_, rfl⟩
            rw [← hout] at HC
            obtain ⟨o0, o1, o2, o3, o4, o5, o6, o7, o8, o9, oA, ⟨oa, ob, ok, os, ot, ou, oz⟩, oB, oC⟩ := out
            obtain rfl : o9 = .slice none 0 0 := congrArg Lt.votes hout
            obtain rfl : oA = .slice none 0 0 := congrArg Lt.items hout
            have HOUT := Lib.hid hout
            clear hout
            have HC : Calls Try.prog 20 #[.pointer (some ⟨g, 0, none⟩)] w5 fun e w' => e = .returned (.tuple #[.agg #[.int .u8 (o0 : Int), .int .u8 (o1 : Int), .int .u8 (o2 : Int), .int .u64 (o3 : Int), .int .u8 (o4 : Int), .int .u64 (o5 : Int), .int .u64 (o6 : Int), .int .u8 (o7 : Int), .string ⟨o8.toArray⟩, .slice none 0 0, .slice none 0 0, .int .u8 (oa : Int), .int .u32 (ob : Int), .int .u8 (ok : Int), .string ⟨os.toArray⟩, .string ⟨ot.toArray⟩, .string ⟨ou.toArray⟩, .int .u8 (oz : Int), .int .u8 (oB : Int), .string ⟨oC.toArray⟩], .int .i64 0]) ∧ ClGo w5 g x' w' := HC
            have HC := Lib.hid HC
            have HI' := Lib.hid hI'
            have HW' := Lib.hid hw'
            have HCM := Lib.hid hcm
            clear hI' hw' hcm
            clear he hF hw
            go_wp2_with fail
            refine HC.out.mono ?_; rintro e w6 ⟨rfl, hc6, G6⟩
            clear HC hc
            have hc := hc6
            clear hc6
            have hv : Blk w6 gw 36 #[.int .u8 (va : Int), .int .u32 (vb : Int), .int .u8 (vk : Int), .string ⟨vs.toArray⟩, .string ⟨vt.toArray⟩, .string ⟨vu.toArray⟩, .int .u8 (vz : Int)] := Blk.grown hv G6 (fun he => by have := Option.some.inj he; omega)
            have ho : Blk w6 go 47 #[.int .u8 0, .int .u8 0, .int .u8 0, .int .u64 0, .int .u8 0, .int .u64 0, .int .u64 0, .int .u8 0, .string ⟨#[]⟩, .slice none 0 0, .slice none 0 0, .int .u8 0, .int .u32 0, .int .u8 0, .string ⟨#[]⟩, .string ⟨#[]⟩, .string ⟨#[]⟩, .int .u8 0, .int .u8 0, .string ⟨#[]⟩] := Blk.grown ho G6 (fun he => by have := Option.some.inj he; omega)
            have bw := bw.grown G6 bw.size (fun k hk => by cases hk; omega)
            clear G6
            have lt3_0 := Blk.lt hc
            have lt3_1 := Blk.lt hv
            have lt3_2 := Blk.lt ho
            have lt3_w := bw.size
            have kn := Blk.new w6 47 #[.int .u8 0, .int .u8 0, .int .u8 0, .int .u64 0, .int .u8 0, .int .u64 0, .int .u64 0, .int .u8 0, .string ⟨#[]⟩, .slice none 0 0, .slice none 0 0, .int .u8 0, .int .u32 0, .int .u8 0, .string ⟨#[]⟩, .string ⟨#[]⟩, .string ⟨#[]⟩, .int .u8 0, .int .u8 0, .string ⟨#[]⟩]
            obtain ⟨gi, hgi⟩ : ∃ g, g = w6.heap.size := ⟨_, rfl⟩
            obtain ⟨w7, hst, n_hc, n_hv, n_ho, hi, n_bw⟩ : ∃ w7, (Instr.storeAt 47 (.pointer (some ⟨w6.heap.size, 0, none⟩)) (.agg #[.int .u8 (o0 : Int), .int .u8 (o1 : Int), .int .u8 (o2 : Int), .int .u64 (o3 : Int), .int .u8 (o4 : Int), .int .u64 (o5 : Int), .int .u64 (o6 : Int), .int .u8 (o7 : Int), .string ⟨o8.toArray⟩, .slice none 0 0, .slice none 0 0, .int .u8 (oa : Int), .int .u32 (ob : Int), .int .u8 (ok : Int), .string ⟨os.toArray⟩, .string ⟨ot.toArray⟩, .string ⟨ou.toArray⟩, .int .u8 (oz : Int), .int .u8 (oB : Int), .string ⟨oC.toArray⟩])).run Try.prog (w6.alloc (.cells #[.int .u8 0, .int .u8 0, .int .u8 0, .int .u64 0, .int .u8 0, .int .u64 0, .int .u64 0, .int .u8 0, .string ⟨#[]⟩, .slice none 0 0, .slice none 0 0, .int .u8 0, .int .u32 0, .int .u8 0, .string ⟨#[]⟩, .string ⟨#[]⟩, .string ⟨#[]⟩, .int .u8 0, .int .u8 0, .string ⟨#[]⟩] 47)) = .ok () w7 ∧ ClAt w7 g x' ∧ Blk w7 gw 36 #[.int .u8 (va : Int), .int .u32 (vb : Int), .int .u8 (vk : Int), .string ⟨vs.toArray⟩, .string ⟨vt.toArray⟩, .string ⟨vu.toArray⟩, .int .u8 (vz : Int)] ∧ Blk w7 go 47 #[.int .u8 0, .int .u8 0, .int .u8 0, .int .u64 0, .int .u8 0, .int .u64 0, .int .u64 0, .int .u8 0, .string ⟨#[]⟩, .slice none 0 0, .slice none 0 0, .int .u8 0, .int .u32 0, .int .u8 0, .string ⟨#[]⟩, .string ⟨#[]⟩, .string ⟨#[]⟩, .int .u8 0, .int .u8 0, .string ⟨#[]⟩] ∧ Blk w7 gi 47 #[.int .u8 (o0 : Int), .int .u8 (o1 : Int), .int .u8 (o2 : Int), .int .u64 (o3 : Int), .int .u8 (o4 : Int), .int .u64 (o5 : Int), .int .u64 (o6 : Int), .int .u8 (o7 : Int), .string ⟨o8.toArray⟩, .slice none 0 0, .slice none 0 0, .int .u8 (oa : Int), .int .u32 (ob : Int), .int .u8 (ok : Int), .string ⟨os.toArray⟩, .string ⟨ot.toArray⟩, .string ⟨ou.toArray⟩, .int .u8 (oz : Int), .int .u8 (oB : Int), .string ⟨oC.toArray⟩] ∧ Below w.heap.size w w7 :=
              ⟨_, blk_store kn (by rfl) size_lt (by rfl), Blk.setRowFar (Blk.alloc hc _) (by omega), Blk.setRowFar (Blk.alloc hv _) (by omega), Blk.setRowFar (Blk.alloc ho _) (by omega), hgi ▸ kn.setRow, below_setRow (bw.alloc bw.size _) (by omega)⟩
            have ne_gi_g : gi ≠ g := by omega
            have ne_gi_gw : gi ≠ gw := by omega
            have ne_gi_go : gi ≠ go := by omega
            have le_gi : w.heap.size ≤ gi := by omega
            clear kn bw hc hv ho lt3_0 lt3_1 lt3_2 lt3_w
            have hc := n_hc
            have hv := n_hv
            have ho := n_ho
            have bw := n_bw
            clear n_bw n_hc n_hv n_ho
            go_upto_region 33 with (refine wpList_store (by rfl) (.tmp 18) (.tmp 168) (by rfl) (by rfl) (by rfl) hst ?_)
            rw [← hgi]
            clear hst hgi
            have hld16 := blk_load (P := Try.prog) (ty := 47) hi Try.underlying47 rfl size_lt
            obtain ⟨w8, hst, n_hc, n_hv, n_hi, n_ho, n_bw⟩ : ∃ w8, (Instr.storeAt 47 (.pointer (some ⟨go, 0, none⟩)) (.agg #[.int .u8 (o0 : Int), .int .u8 (o1 : Int), .int .u8 (o2 : Int), .int .u64 (o3 : Int), .int .u8 (o4 : Int), .int .u64 (o5 : Int), .int .u64 (o6 : Int), .int .u8 (o7 : Int), .string ⟨o8.toArray⟩, .slice none 0 0, .slice none 0 0, .int .u8 (oa : Int), .int .u32 (ob : Int), .int .u8 (ok : Int), .string ⟨os.toArray⟩, .string ⟨ot.toArray⟩, .string ⟨ou.toArray⟩, .int .u8 (oz : Int), .int .u8 (oB : Int), .string ⟨oC.toArray⟩])).run Try.prog w7 = .ok () w8 ∧ ClAt w8 g x' ∧ Blk w8 gw 36 #[.int .u8 (va : Int), .int .u32 (vb : Int), .int .u8 (vk : Int), .string ⟨vs.toArray⟩, .string ⟨vt.toArray⟩, .string ⟨vu.toArray⟩, .int .u8 (vz : Int)] ∧ Blk w8 gi 47 #[.int .u8 (o0 : Int), .int .u8 (o1 : Int), .int .u8 (o2 : Int), .int .u64 (o3 : Int), .int .u8 (o4 : Int), .int .u64 (o5 : Int), .int .u64 (o6 : Int), .int .u8 (o7 : Int), .string ⟨o8.toArray⟩, .slice none 0 0, .slice none 0 0, .int .u8 (oa : Int), .int .u32 (ob : Int), .int .u8 (ok : Int), .string ⟨os.toArray⟩, .string ⟨ot.toArray⟩, .string ⟨ou.toArray⟩, .int .u8 (oz : Int), .int .u8 (oB : Int), .string ⟨oC.toArray⟩] ∧ Blk w8 go 47 #[.int .u8 (o0 : Int), .int .u8 (o1 : Int), .int .u8 (o2 : Int), .int .u64 (o3 : Int), .int .u8 (o4 : Int), .int .u64 (o5 : Int), .int .u64 (o6 : Int), .int .u8 (o7 : Int), .string ⟨o8.toArray⟩, .slice none 0 0, .slice none 0 0, .int .u8 (oa : Int), .int .u32 (ob : Int), .int .u8 (ok : Int), .string ⟨os.toArray⟩, .string ⟨ot.toArray⟩, .string ⟨ou.toArray⟩, .int .u8 (oz : Int), .int .u8 (oB : Int), .string ⟨oC.toArray⟩] ∧ Below w.heap.size w w8 :=
              ⟨_, blk_store ho (by rfl) size_lt (by rfl), Blk.setRowFar hc (by omega), Blk.setRowFar hv (by omega), Blk.setRowFar hi (by omega), Blk.setRow ho, below_setRow bw (by omega)⟩
            clear bw hc hv ho hi
            have hc := n_hc
            have hv := n_hv
            have ho := n_ho
            have hi := n_hi
            have bw := n_bw
            clear n_bw n_hc n_hv n_ho n_hi
            go_wp2_with (first | refine wpList_load (by rfl) (.tmp 18) (by rfl) (by rfl) hld16 ?_ | refine wpList_store (by rfl) (.tmp 14) (.tmp 174) (by rfl) (by rfl) (by rfl) hst ?_)
            go_meet
            exact ⟨seq, took, x', ⟨o0, o1, o2, o3, o4, o5, o6, o7, o8, .slice none 0 0, .slice none 0 0, ⟨oa, ob, ok, os, ot, ou, oz⟩, oB, oC⟩, true, rfl, rfl, rfl, hc, HI', by omega, hv, ho, bw, fun _ => ⟨HOUT.out, HW'.out⟩, fun _ _ => (HWS.out (by trivial)).trans HCM.out.symm⟩
        have hn0 : ((d : Int) == 0) = false := beq_eq_false_iff_ne.2 (by omega)
        have hn1 : ((d : Int) == 1) = false := beq_eq_false_iff_ne.2 (by omega)
        clear hd0 hd1 HIV HNU HCF rX5 p0
        have hldL : (Instr.loadAt 47 (.pointer (some { block := (ad.add (k * 28)).block, off := (ad.add (k * 28)).off + 8 }))).run Try.prog w5 = .ok (.agg #[.int .u8 (ls : Int), .int .u8 (ld : Int), .int .u8 (lk : Int), .int .u64 (lbn : Int), .int .u8 (lbr : Int), .int .u64 (lba : Int), .int .u64 (lsl : Int), .int .u8 (lno : Int), .string ⟨lv.toArray⟩, lvo, lit, .int .u8 (ya : Int), .int .u32 (yb : Int), .int .u8 (yk : Int), .string ⟨ys.toArray⟩, .string ⟨yt.toArray⟩, .string ⟨yu.toArray⟩, .int .u8 (yz : Int), .int .u8 (lco : Int), .string ⟨lte.toArray⟩]) w5 := run_loadAt_mid (P := Try.prog) w5 _ _ 47 _ _ rL5 Try.underlying47 rfl (by kernel_rfl)
        have HC := hear_any g x hF ⟨ls, ld, lk, lbn, lbr, lba, lsl, lno, lv, lvo, lit, ⟨ya, yb, yk, ys, yt, yu, yz⟩, lco, lte⟩ HLF.out w5 hc
        have HIX := HHE.out
        clear HHE rL5
        rcases HIX with he | ⟨hw, x', he, hw', hcm, hI'⟩ | ⟨hw, hk2, hco, hsq, x', he, hw', hI'⟩
        · as_aux_lemma =>
          rw [he] at HC
          have HC : Calls Try.prog 22 #[.pointer (some ⟨g, 0, none⟩), .agg #[.int .u8 (ls : Int), .int .u8 (ld : Int), .int .u8 (lk : Int), .int .u64 (lbn : Int), .int .u8 (lbr : Int), .int .u64 (lba : Int), .int .u64 (lsl : Int), .int .u8 (lno : Int), .string ⟨lv.toArray⟩, lvo, lit, .int .u8 (ya : Int), .int .u32 (yb : Int), .int .u8 (yk : Int), .string ⟨ys.toArray⟩, .string ⟨yt.toArray⟩, .string ⟨yu.toArray⟩, .int .u8 (yz : Int), .int .u8 (lco : Int), .string ⟨lte.toArray⟩]] w5 fun e w' => e = .returned (.tuple #[.agg #[.int .u8 0, .int .u8 0, .int .u8 0, .int .u64 0, .int .u8 0, .int .u64 0, .int .u64 0, .int .u8 0, .string ⟨#[]⟩, .slice none 0 0, .slice none 0 0, .int .u8 0, .int .u32 0, .int .u8 0, .string ⟨#[]⟩, .string ⟨#[]⟩, .string ⟨#[]⟩, .int .u8 0, .int .u8 0, .string ⟨#[]⟩], .bool false, .agg #[.int .u8 0, .string ⟨#[]⟩], .bool false]) ∧ ClGo w5 g x w' := HC
          have HC := Lib.hid HC
          clear he hF
          go_wp2_with (refine wpList_load (by rfl) (.tmp 74) (by rfl) (by rfl) hldL ?_)
          refine HC.out.mono ?_; rintro e w6 ⟨rfl, hc6, G6⟩
          clear hldL HC hc
          have hc := hc6
          clear hc6
          have hv : Blk w6 gw 36 #[.int .u8 (va : Int), .int .u32 (vb : Int), .int .u8 (vk : Int), .string ⟨vs.toArray⟩, .string ⟨vt.toArray⟩, .string ⟨vu.toArray⟩, .int .u8 (vz : Int)] := Blk.grown hv G6 (fun he => by have := Option.some.inj he; omega)
          have ho : Blk w6 go 47 #[.int .u8 0, .int .u8 0, .int .u8 0, .int .u64 0, .int .u8 0, .int .u64 0, .int .u64 0, .int .u8 0, .string ⟨#[]⟩, .slice none 0 0, .slice none 0 0, .int .u8 0, .int .u32 0, .int .u8 0, .string ⟨#[]⟩, .string ⟨#[]⟩, .string ⟨#[]⟩, .int .u8 0, .int .u8 0, .string ⟨#[]⟩] := Blk.grown ho G6 (fun he => by have := Option.some.inj he; omega)
          have bw := bw.grown G6 bw.size (fun k hk => by cases hk; omega)
          clear G6
          have lt3_0 := Blk.lt hc
          have lt3_1 := Blk.lt hv
          have lt3_2 := Blk.lt ho
          have lt3_w := bw.size
          have kl := (Blk.new w6 47 #[.int .u8 0, .int .u8 0, .int .u8 0, .int .u64 0, .int .u8 0, .int .u64 0, .int .u64 0, .int .u8 0, .string ⟨#[]⟩, .slice none 0 0, .slice none 0 0, .int .u8 0, .int .u32 0, .int .u8 0, .string ⟨#[]⟩, .string ⟨#[]⟩, .string ⟨#[]⟩, .int .u8 0, .int .u8 0, .string ⟨#[]⟩]).alloc (.cells #[.int .u8 0, .string ⟨#[]⟩] 43)
          have kr := Blk.new (w6.alloc (.cells #[.int .u8 0, .int .u8 0, .int .u8 0, .int .u64 0, .int .u8 0, .int .u64 0, .int .u64 0, .int .u8 0, .string ⟨#[]⟩, .slice none 0 0, .slice none 0 0, .int .u8 0, .int .u32 0, .int .u8 0, .string ⟨#[]⟩, .string ⟨#[]⟩, .string ⟨#[]⟩, .int .u8 0, .int .u8 0, .string ⟨#[]⟩] 47)) 43 #[.int .u8 0, .string ⟨#[]⟩]
          have es : (w6.alloc (.cells #[.int .u8 0, .int .u8 0, .int .u8 0, .int .u64 0, .int .u8 0, .int .u64 0, .int .u64 0, .int .u8 0, .string ⟨#[]⟩, .slice none 0 0, .slice none 0 0, .int .u8 0, .int .u32 0, .int .u8 0, .string ⟨#[]⟩, .string ⟨#[]⟩, .string ⟨#[]⟩, .int .u8 0, .int .u8 0, .string ⟨#[]⟩] 47)).heap.size = w6.heap.size + 1 := by simp
          rw [es] at kr
          obtain ⟨gi, hgi⟩ : ∃ g, g = w6.heap.size := ⟨_, rfl⟩
          obtain ⟨gj, hgj⟩ : ∃ g, g = w6.heap.size + 1 := ⟨_, rfl⟩
          obtain ⟨w7, hstA, w8, hstB, n_hc, n_hv, n_ho, hi, hj, n_bw⟩ : ∃ w7, (Instr.storeAt 47 (.pointer (some ⟨w6.heap.size, 0, none⟩)) (.agg #[.int .u8 0, .int .u8 0, .int .u8 0, .int .u64 0, .int .u8 0, .int .u64 0, .int .u64 0, .int .u8 0, .string ⟨#[]⟩, .slice none 0 0, .slice none 0 0, .int .u8 0, .int .u32 0, .int .u8 0, .string ⟨#[]⟩, .string ⟨#[]⟩, .string ⟨#[]⟩, .int .u8 0, .int .u8 0, .string ⟨#[]⟩])).run Try.prog ((w6.alloc (.cells #[.int .u8 0, .int .u8 0, .int .u8 0, .int .u64 0, .int .u8 0, .int .u64 0, .int .u64 0, .int .u8 0, .string ⟨#[]⟩, .slice none 0 0, .slice none 0 0, .int .u8 0, .int .u32 0, .int .u8 0, .string ⟨#[]⟩, .string ⟨#[]⟩, .string ⟨#[]⟩, .int .u8 0, .int .u8 0, .string ⟨#[]⟩] 47)).alloc (.cells #[.int .u8 0, .string ⟨#[]⟩] 43)) = .ok () w7 ∧ ∃ w8, (Instr.storeAt 43 (.pointer (some ⟨w6.heap.size + 1, 0, none⟩)) (.agg #[.int .u8 0, .string ⟨#[]⟩])).run Try.prog w7 = .ok () w8 ∧ ClAt w8 g x ∧ Blk w8 gw 36 #[.int .u8 (va : Int), .int .u32 (vb : Int), .int .u8 (vk : Int), .string ⟨vs.toArray⟩, .string ⟨vt.toArray⟩, .string ⟨vu.toArray⟩, .int .u8 (vz : Int)] ∧ Blk w8 go 47 #[.int .u8 0, .int .u8 0, .int .u8 0, .int .u64 0, .int .u8 0, .int .u64 0, .int .u64 0, .int .u8 0, .string ⟨#[]⟩, .slice none 0 0, .slice none 0 0, .int .u8 0, .int .u32 0, .int .u8 0, .string ⟨#[]⟩, .string ⟨#[]⟩, .string ⟨#[]⟩, .int .u8 0, .int .u8 0, .string ⟨#[]⟩] ∧ Blk w8 gi 47 #[.int .u8 0, .int .u8 0, .int .u8 0, .int .u64 0, .int .u8 0, .int .u64 0, .int .u64 0, .int .u8 0, .string ⟨#[]⟩, .slice none 0 0, .slice none 0 0, .int .u8 0, .int .u32 0, .int .u8 0, .string ⟨#[]⟩, .string ⟨#[]⟩, .string ⟨#[]⟩, .int .u8 0, .int .u8 0, .string ⟨#[]⟩] ∧ Blk w8 gj 43 #[.int .u8 0, .string ⟨#[]⟩] ∧ Below w.heap.size w w8 :=
            ⟨_, blk_store kl (by rfl) size_lt (by rfl), _, blk_store (kr.setRowFar (by omega)) (by rfl) size_reply (by rfl), Blk.setRowFar (Blk.setRowFar (Blk.alloc (Blk.alloc hc _) _) (by omega)) (by omega), Blk.setRowFar (Blk.setRowFar (Blk.alloc (Blk.alloc hv _) _) (by omega)) (by omega), Blk.setRowFar (Blk.setRowFar (Blk.alloc (Blk.alloc ho _) _) (by omega)) (by omega), (by rw [hgi]; exact kl.setRow.setRowFar (by omega)), (by rw [hgj]; exact (kr.setRowFar (by omega)).setRow), below_setRow (below_setRow ((bw.alloc bw.size _).alloc (by rw [es]; omega) _) (by omega)) (by omega)⟩
          have ne_gi_g : gi ≠ g := by omega
          have ne_gi_gw : gi ≠ gw := by omega
          have ne_gi_go : gi ≠ go := by omega
          have le_gi : w.heap.size ≤ gi := by omega
          have ne_gj_g : gj ≠ g := by omega
          have ne_gj_gw : gj ≠ gw := by omega
          have ne_gj_go : gj ≠ go := by omega
          have ne_gj_gi : gj ≠ gi := by omega
          have le_gj : w.heap.size ≤ gj := by omega
          clear kl kr es bw hc hv ho lt3_0 lt3_1 lt3_2 lt3_w
          have hc := n_hc
          have hv := n_hv
          have ho := n_ho
          have bw := n_bw
          clear n_bw n_hc n_hv n_ho
          go_upto_region 15 with (first | refine wpList_store (by rfl) (.tmp 20) (.tmp 77) (by rfl) (by rfl) (by rfl) hstA ?_ | refine wpList_store (by rfl) (.tmp 22) (.tmp 79) (by rfl) (by rfl) (by rfl) hstB ?_)
          rw [← hgj]
          clear hstB hgj
          rw [← hgi]
          clear hstA hgi
          have hld16 := blk_load (P := Try.prog) (ty := 47) hi Try.underlying47 rfl size_lt
          obtain ⟨w9, hst, n_hc, n_hv, n_hi, n_hj, n_ho, n_bw⟩ : ∃ w9, (Instr.storeAt 47 (.pointer (some ⟨go, 0, none⟩)) (.agg #[.int .u8 0, .int .u8 0, .int .u8 0, .int .u64 0, .int .u8 0, .int .u64 0, .int .u64 0, .int .u8 0, .string ⟨#[]⟩, .slice none 0 0, .slice none 0 0, .int .u8 0, .int .u32 0, .int .u8 0, .string ⟨#[]⟩, .string ⟨#[]⟩, .string ⟨#[]⟩, .int .u8 0, .int .u8 0, .string ⟨#[]⟩])).run Try.prog w8 = .ok () w9 ∧ ClAt w9 g x ∧ Blk w9 gw 36 #[.int .u8 (va : Int), .int .u32 (vb : Int), .int .u8 (vk : Int), .string ⟨vs.toArray⟩, .string ⟨vt.toArray⟩, .string ⟨vu.toArray⟩, .int .u8 (vz : Int)] ∧ Blk w9 gi 47 #[.int .u8 0, .int .u8 0, .int .u8 0, .int .u64 0, .int .u8 0, .int .u64 0, .int .u64 0, .int .u8 0, .string ⟨#[]⟩, .slice none 0 0, .slice none 0 0, .int .u8 0, .int .u32 0, .int .u8 0, .string ⟨#[]⟩, .string ⟨#[]⟩, .string ⟨#[]⟩, .int .u8 0, .int .u8 0, .string ⟨#[]⟩] ∧ Blk w9 gj 43 #[.int .u8 0, .string ⟨#[]⟩] ∧ Blk w9 go 47 #[.int .u8 0, .int .u8 0, .int .u8 0, .int .u64 0, .int .u8 0, .int .u64 0, .int .u64 0, .int .u8 0, .string ⟨#[]⟩, .slice none 0 0, .slice none 0 0, .int .u8 0, .int .u32 0, .int .u8 0, .string ⟨#[]⟩, .string ⟨#[]⟩, .string ⟨#[]⟩, .int .u8 0, .int .u8 0, .string ⟨#[]⟩] ∧ Below w.heap.size w w9 :=
            ⟨_, blk_store ho (by rfl) size_lt (by rfl), Blk.setRowFar hc (by omega), Blk.setRowFar hv (by omega), Blk.setRowFar hi (by omega), Blk.setRowFar hj (by omega), Blk.setRow ho, below_setRow bw (by omega)⟩
          clear bw hc hv ho hi hj
          have hc := n_hc
          have hv := n_hv
          have ho := n_ho
          have hi := n_hi
          have hj := n_hj
          have bw := n_bw
          clear n_bw n_hc n_hv n_ho n_hi n_hj
          go_upto_region 17 with (first | refine wpList_load (by rfl) (.tmp 20) (by rfl) (by rfl) hld16 ?_ | refine wpList_store (by rfl) (.tmp 14) (.tmp 81) (by rfl) (by rfl) (by rfl) hst ?_)
          have BW := Lib.hid bw
          have hc := Blk.drew hc
          have hv := Blk.drew hv
          have ho := Blk.drew ho
          have hi := Blk.drew hi
          have hj := Blk.drew hj
          clear bw
          refine region_inv2 (by kernel_rfl) [] [(83, .bool false), (84, .bool false), (85, undef), (86, .bool false), (87, .bool false), (88, .bool false), (89, .bool false), (90, .bool false), (91, .bool false), (92, .bool false), (93, undef), (94, undef), (95, .bool false), (96, .bool false), (97, .bool false), (98, .bool false), (99, .bool false), (100, undef), (101, undef), (102, undef), (103, undef), (104, undef), (105, undef), (106, undef), (107, undef), (108, undef), (109, undef), (110, undef), (111, undef), (112, undef), (113, undef), (114, undef), (115, undef), (116, undef), (117, undef), (118, undef), (119, undef), (120, undef), (121, undef), (122, undef), (123, undef), (124, undef), (125, undef), (126, undef), (127, undef), (128, undef), (129, undef), (130, undef), (131, undef), (132, undef), (133, undef), (134, undef), (135, undef), (136, undef), (137, .bool false), (138, .bool false)] (by kernel_rfl) (by kernel_rfl) rfl (by kernel_rfl) ?_ ?_ ?_
          · intro q hq; cases hq
          · refine And.intro ?_ ?_
            · intro d hd ρ W hcs bw hn hg
              cases hd
              have e21 : ρ (.tmp 21) = .bool false := hn 21 (by decide)
              clear hn hg
              refine .inl ⟨trivial, ?_⟩
              refine .inl ⟨_, W, rfl, e21, Below.refl _ _⟩
            refine And.intro ?_ ?_
            · intro d hd ρ W hcs bw hn hg
              cases hd
              have e83 : ρ (.tmp 83) = .bool false := hn 83 (by decide)
              clear hn hg
              refine .inl ⟨trivial, ?_⟩
              refine .inl ⟨_, W, rfl, e83, Below.refl _ _⟩
            refine And.intro ?_ ?_
            · intro d hd ρ W hcs bw hn hg
              cases hd
              have eg : ρ (.tmp 84) = .bool false := hg _ _ _ _ rfl rfl rfl
              exact .inr ⟨⟨_, _, _, rfl, rfl, eg, nofun⟩, rfl⟩
            refine And.intro ?_ ?_
            · intro d hd ρ W hcs bw hn hg
              cases hd
              have e84 : ρ (.tmp 84) = .bool false := hn 84 (by decide)
              have e85 : ρ (.tmp 85) = undef := hn 85 (by decide)
              clear hn hg
              refine .inl ⟨trivial, ?_⟩
              have hc1 := hcs.1
              refine .inl ⟨.bool false, W, ?_, rfl, Below.refl _ _⟩
              go_simp
            refine And.intro ?_ ?_
            · intro d hd ρ W hcs bw hn hg
              cases hd
              have e86 : ρ (.tmp 86) = .bool false := hn 86 (by decide)
              clear hn hg
              refine .inl ⟨trivial, ?_⟩
              refine .inl ⟨_, W, rfl, e86, Below.refl _ _⟩
            refine And.intro ?_ ?_
            · intro d hd ρ W hcs bw hn hg
              cases hd
              have eg : ρ (.tmp 87) = .bool false := hg _ _ _ _ rfl rfl rfl
              have e21 : ρ (.tmp 21) = .bool false := hn 21 (by decide)
              clear hn hg
              refine .inl ⟨⟨_, _, rfl, rfl, eg⟩, ?_⟩
              refine .inl ⟨_, W, rfl, e21, Below.refl _ _⟩
            refine And.intro ?_ ?_
            · intro d hd ρ W hcs bw hn hg
              cases hd
              have eg : ρ (.tmp 87) = .bool false := hg _ _ _ _ rfl rfl rfl
              have e88 : ρ (.tmp 88) = .bool false := hn 88 (by decide)
              clear hn hg
              refine .inl ⟨⟨_, _, rfl, rfl, eg⟩, ?_⟩
              refine .inl ⟨_, W, rfl, e88, Below.refl _ _⟩
            refine And.intro ?_ ?_
            · intro d hd ρ W hcs bw hn hg
              cases hd
              have eg : ρ (.tmp 89) = .bool false := hg _ _ _ _ rfl rfl rfl
              have e23 : ρ (.tmp 23) = .bool false := hn 23 (by decide)
              clear hn hg
              refine .inl ⟨⟨_, _, rfl, rfl, eg⟩, ?_⟩
              refine .inl ⟨_, W, rfl, e23, Below.refl _ _⟩
            refine And.intro ?_ ?_
            · intro d hd ρ W hcs bw hn hg
              cases hd
              have eg : ρ (.tmp 87) = .bool false := hg _ _ _ _ rfl rfl rfl
              have e89 : ρ (.tmp 89) = .bool false := hn 89 (by decide)
              have e90 : ρ (.tmp 90) = .bool false := hn 90 (by decide)
              clear hn hg
              refine .inl ⟨⟨_, _, rfl, rfl, eg⟩, ?_⟩
              have hc1 := hcs.1
              refine .inl ⟨.bool false, W, ?_, rfl, Below.refl _ _⟩
              go_simp
            refine And.intro ?_ ?_
            · intro d hd ρ W hcs bw hn hg
              cases hd
              have eg : ρ (.tmp 87) = .bool false := hg _ _ _ _ rfl rfl rfl
              have e91 : ρ (.tmp 91) = .bool false := hn 91 (by decide)
              clear hn hg
              refine .inl ⟨⟨_, _, rfl, rfl, eg⟩, ?_⟩
              refine .inl ⟨_, W, rfl, e91, Below.refl _ _⟩
            refine And.intro ?_ ?_
            · intro d hd ρ W hcs bw hn hg
              cases hd
              have eg : ρ (.tmp 92) = .bool false := hg _ _ _ _ rfl rfl rfl
              exact .inr ⟨⟨_, _, _, rfl, rfl, eg, nofun⟩, rfl⟩
            refine And.intro ?_ ?_
            · intro d hd ρ W hcs bw hn hg
              cases hd
              have eg : ρ (.tmp 92) = .bool false := hg _ _ _ _ rfl rfl rfl
              exact .inr ⟨⟨_, _, _, rfl, rfl, eg, nofun⟩, rfl⟩
            refine And.intro ?_ ?_
            · intro d hd ρ W hcs bw hn hg
              cases hd
              have eg : ρ (.tmp 87) = .bool false := hg _ _ _ _ rfl rfl rfl
              have e92 : ρ (.tmp 92) = .bool false := hn 92 (by decide)
              have e94 : ρ (.tmp 94) = undef := hn 94 (by decide)
              clear hn hg
              refine .inl ⟨⟨_, _, rfl, rfl, eg⟩, ?_⟩
              have hc1 := hcs.1
              refine .inl ⟨.bool false, W, ?_, rfl, Below.refl _ _⟩
              go_simp
            refine And.intro ?_ ?_
            · intro d hd ρ W hcs bw hn hg
              cases hd
              have e87 : ρ (.tmp 87) = .bool false := hn 87 (by decide)
              have e95 : ρ (.tmp 95) = .bool false := hn 95 (by decide)
              clear hn hg
              refine .inl ⟨trivial, ?_⟩
              have hc1 := hcs.1
              refine .inl ⟨.bool false, W, ?_, rfl, Below.refl _ _⟩
              go_simp
            refine And.intro ?_ ?_
            · intro d hd ρ W hcs bw hn hg
              cases hd
              have e96 : ρ (.tmp 96) = .bool false := hn 96 (by decide)
              clear hn hg
              refine .inl ⟨trivial, ?_⟩
              refine .inl ⟨_, W, rfl, e96, Below.refl _ _⟩
            refine And.intro ?_ ?_
            · intro d hd ρ W hcs bw hn hg
              cases hd
              have eg : ρ (.tmp 97) = .bool false := hg _ _ _ _ rfl rfl rfl
              have e23 : ρ (.tmp 23) = .bool false := hn 23 (by decide)
              clear hn hg
              refine .inl ⟨⟨_, _, rfl, rfl, eg⟩, ?_⟩
              refine .inl ⟨_, W, rfl, e23, Below.refl _ _⟩
            refine And.intro ?_ ?_
            · intro d hd ρ W hcs bw hn hg
              cases hd
              have eg : ρ (.tmp 97) = .bool false := hg _ _ _ _ rfl rfl rfl
              have e98 : ρ (.tmp 98) = .bool false := hn 98 (by decide)
              clear hn hg
              refine .inl ⟨⟨_, _, rfl, rfl, eg⟩, ?_⟩
              refine .inl ⟨_, W, rfl, e98, Below.refl _ _⟩
            refine And.intro ?_ ?_
            · intro d hd ρ W hcs bw hn hg
              cases hd
              have eg : ρ (.tmp 99) = .bool false := hg _ _ _ _ rfl rfl rfl
              exact .inr ⟨⟨_, _, _, rfl, rfl, eg, nofun⟩, rfl⟩
            refine And.intro ?_ ?_
            · intro d hd ρ W hcs bw hn hg
              cases hd
              have eg : ρ (.tmp 99) = .bool false := hg _ _ _ _ rfl rfl rfl
              exact .inr ⟨⟨_, _, _, rfl, rfl, eg, nofun⟩, rfl⟩
            refine And.intro ?_ ?_
            · intro d hd ρ W hcs bw hn hg
              cases hd
              have eg : ρ (.tmp 99) = .bool false := hg _ _ _ _ rfl rfl rfl
              exact .inr ⟨⟨_, _, _, rfl, rfl, eg, nofun⟩, rfl⟩
            refine And.intro ?_ ?_
            · intro d hd ρ W hcs bw hn hg
              cases hd
              have eg : ρ (.tmp 99) = .bool false := hg _ _ _ _ rfl rfl rfl
              exact .inr ⟨⟨_, _, _, rfl, rfl, eg, nofun⟩, rfl⟩
            refine And.intro ?_ ?_
            · intro d hd ρ W hcs bw hn hg
              cases hd
              have eg : ρ (.tmp 103) = undef := hg _ _ _ _ rfl rfl rfl
              exact .inr ⟨⟨_, _, _, rfl, rfl, eg, nofun⟩, rfl⟩
            refine And.intro ?_ ?_
            · intro d hd ρ W hcs bw hn hg
              cases hd
              have eg : ρ (.tmp 103) = undef := hg _ _ _ _ rfl rfl rfl
              exact .inr ⟨⟨_, _, _, rfl, rfl, eg, nofun⟩, rfl⟩
            refine And.intro ?_ ?_
            · intro d hd ρ W hcs bw hn hg
              cases hd
              have eg : ρ (.tmp 103) = undef := hg _ _ _ _ rfl rfl rfl
              exact .inr ⟨⟨_, _, _, rfl, rfl, eg, nofun⟩, rfl⟩
            refine And.intro ?_ ?_
            · intro d hd ρ W hcs bw hn hg
              cases hd
              have eg : ρ (.tmp 103) = undef := hg _ _ _ _ rfl rfl rfl
              exact .inr ⟨⟨_, _, _, rfl, rfl, eg, nofun⟩, rfl⟩
            refine And.intro ?_ ?_
            · intro d hd ρ W hcs bw hn hg
              cases hd
              have eg : ρ (.tmp 103) = undef := hg _ _ _ _ rfl rfl rfl
              exact .inr ⟨⟨_, _, _, rfl, rfl, eg, nofun⟩, rfl⟩
            refine And.intro ?_ ?_
            · intro d hd ρ W hcs bw hn hg
              cases hd
              have eg : ρ (.tmp 103) = undef := hg _ _ _ _ rfl rfl rfl
              exact .inr ⟨⟨_, _, _, rfl, rfl, eg, nofun⟩, rfl⟩
            refine And.intro ?_ ?_
            · intro d hd ρ W hcs bw hn hg
              cases hd
              have eg : ρ (.tmp 103) = undef := hg _ _ _ _ rfl rfl rfl
              exact .inr ⟨⟨_, _, _, rfl, rfl, eg, nofun⟩, rfl⟩
            refine And.intro ?_ ?_
            · intro d hd ρ W hcs bw hn hg
              cases hd
              have eg : ρ (.tmp 103) = undef := hg _ _ _ _ rfl rfl rfl
              exact .inr ⟨⟨_, _, _, rfl, rfl, eg, nofun⟩, rfl⟩
            refine And.intro ?_ ?_
            · intro d hd ρ W hcs bw hn hg
              cases hd
              have eg : ρ (.tmp 99) = .bool false := hg _ _ _ _ rfl rfl rfl
              exact .inr ⟨⟨_, _, _, rfl, rfl, eg, nofun⟩, rfl⟩
            refine And.intro ?_ ?_
            · intro d hd ρ W hcs bw hn hg
              cases hd
              have eg : ρ (.tmp 99) = .bool false := hg _ _ _ _ rfl rfl rfl
              exact .inr ⟨⟨_, _, _, rfl, rfl, eg, nofun⟩, rfl⟩
            refine And.intro ?_ ?_
            · intro d hd ρ W hcs bw hn hg
              cases hd
              have eg : ρ (.tmp 113) = undef := hg _ _ _ _ rfl rfl rfl
              exact .inr ⟨⟨_, _, _, rfl, rfl, eg, nofun⟩, rfl⟩
            refine And.intro ?_ ?_
            · intro d hd ρ W hcs bw hn hg
              cases hd
              have eg : ρ (.tmp 113) = undef := hg _ _ _ _ rfl rfl rfl
              exact .inr ⟨⟨_, _, _, rfl, rfl, eg, nofun⟩, rfl⟩
            refine And.intro ?_ ?_
            · intro d hd ρ W hcs bw hn hg
              cases hd
              have eg : ρ (.tmp 113) = undef := hg _ _ _ _ rfl rfl rfl
              exact .inr ⟨⟨_, _, _, rfl, rfl, eg, nofun⟩, rfl⟩
            refine And.intro ?_ ?_
            · intro d hd ρ W hcs bw hn hg
              cases hd
              have eg : ρ (.tmp 113) = undef := hg _ _ _ _ rfl rfl rfl
              exact .inr ⟨⟨_, _, _, rfl, rfl, eg, nofun⟩, rfl⟩
            refine And.intro ?_ ?_
            · intro d hd ρ W hcs bw hn hg
              cases hd
              have eg : ρ (.tmp 113) = undef := hg _ _ _ _ rfl rfl rfl
              exact .inr ⟨⟨_, _, _, rfl, rfl, eg, nofun⟩, rfl⟩
            refine And.intro ?_ ?_
            · intro d hd ρ W hcs bw hn hg
              cases hd
              have eg : ρ (.tmp 113) = undef := hg _ _ _ _ rfl rfl rfl
              exact .inr ⟨⟨_, _, _, rfl, rfl, eg, nofun⟩, rfl⟩
            refine And.intro ?_ ?_
            · intro d hd ρ W hcs bw hn hg
              cases hd
              have eg : ρ (.tmp 113) = undef := hg _ _ _ _ rfl rfl rfl
              exact .inr ⟨⟨_, _, _, rfl, rfl, eg, nofun⟩, rfl⟩
            refine And.intro ?_ ?_
            · intro d hd ρ W hcs bw hn hg
              cases hd
              have eg : ρ (.tmp 113) = undef := hg _ _ _ _ rfl rfl rfl
              exact .inr ⟨⟨_, _, _, rfl, rfl, eg, nofun⟩, rfl⟩
            refine And.intro ?_ ?_
            · intro d hd ρ W hcs bw hn hg
              cases hd
              have eg : ρ (.tmp 113) = undef := hg _ _ _ _ rfl rfl rfl
              exact .inr ⟨⟨_, _, _, rfl, rfl, eg, nofun⟩, rfl⟩
            refine And.intro ?_ ?_
            · intro d hd ρ W hcs bw hn hg
              cases hd
              have eg : ρ (.tmp 113) = undef := hg _ _ _ _ rfl rfl rfl
              exact .inr ⟨⟨_, _, _, rfl, rfl, eg, nofun⟩, rfl⟩
            refine And.intro ?_ ?_
            · intro d hd ρ W hcs bw hn hg
              cases hd
              have eg : ρ (.tmp 113) = undef := hg _ _ _ _ rfl rfl rfl
              exact .inr ⟨⟨_, _, _, rfl, rfl, eg, nofun⟩, rfl⟩
            refine And.intro ?_ ?_
            · intro d hd ρ W hcs bw hn hg
              cases hd
              have eg : ρ (.tmp 99) = .bool false := hg _ _ _ _ rfl rfl rfl
              exact .inr ⟨⟨_, _, _, rfl, rfl, eg, nofun⟩, rfl⟩
            refine And.intro ?_ ?_
            · intro d hd ρ W hcs bw hn hg
              cases hd
              have eg : ρ (.tmp 99) = .bool false := hg _ _ _ _ rfl rfl rfl
              exact .inr ⟨⟨_, _, _, rfl, rfl, eg, nofun⟩, rfl⟩
            refine And.intro ?_ ?_
            · intro d hd ρ W hcs bw hn hg
              cases hd
              have eg : ρ (.tmp 126) = undef := hg _ _ _ _ rfl rfl rfl
              exact .inr ⟨⟨_, _, _, rfl, rfl, eg, nofun⟩, rfl⟩
            refine And.intro ?_ ?_
            · intro d hd ρ W hcs bw hn hg
              cases hd
              have eg : ρ (.tmp 126) = undef := hg _ _ _ _ rfl rfl rfl
              exact .inr ⟨⟨_, _, _, rfl, rfl, eg, nofun⟩, rfl⟩
            refine And.intro ?_ ?_
            · intro d hd ρ W hcs bw hn hg
              cases hd
              have eg : ρ (.tmp 126) = undef := hg _ _ _ _ rfl rfl rfl
              exact .inr ⟨⟨_, _, _, rfl, rfl, eg, nofun⟩, rfl⟩
            refine And.intro ?_ ?_
            · intro d hd ρ W hcs bw hn hg
              cases hd
              have eg : ρ (.tmp 126) = undef := hg _ _ _ _ rfl rfl rfl
              exact .inr ⟨⟨_, _, _, rfl, rfl, eg, nofun⟩, rfl⟩
            refine And.intro ?_ ?_
            · intro d hd ρ W hcs bw hn hg
              cases hd
              have eg : ρ (.tmp 126) = undef := hg _ _ _ _ rfl rfl rfl
              exact .inr ⟨⟨_, _, _, rfl, rfl, eg, nofun⟩, rfl⟩
            refine And.intro ?_ ?_
            · intro d hd ρ W hcs bw hn hg
              cases hd
              have eg : ρ (.tmp 126) = undef := hg _ _ _ _ rfl rfl rfl
              exact .inr ⟨⟨_, _, _, rfl, rfl, eg, nofun⟩, rfl⟩
            refine And.intro ?_ ?_
            · intro d hd ρ W hcs bw hn hg
              cases hd
              have eg : ρ (.tmp 126) = undef := hg _ _ _ _ rfl rfl rfl
              exact .inr ⟨⟨_, _, _, rfl, rfl, eg, nofun⟩, rfl⟩
            refine And.intro ?_ ?_
            · intro d hd ρ W hcs bw hn hg
              cases hd
              have eg : ρ (.tmp 126) = undef := hg _ _ _ _ rfl rfl rfl
              exact .inr ⟨⟨_, _, _, rfl, rfl, eg, nofun⟩, rfl⟩
            refine And.intro ?_ ?_
            · intro d hd ρ W hcs bw hn hg
              cases hd
              have eg : ρ (.tmp 126) = undef := hg _ _ _ _ rfl rfl rfl
              exact .inr ⟨⟨_, _, _, rfl, rfl, eg, nofun⟩, rfl⟩
            refine And.intro ?_ ?_
            · intro d hd ρ W hcs bw hn hg
              cases hd
              have eg : ρ (.tmp 99) = .bool false := hg _ _ _ _ rfl rfl rfl
              exact .inr ⟨⟨_, _, _, rfl, rfl, eg, nofun⟩, rfl⟩
            refine And.intro ?_ ?_
            · intro d hd ρ W hcs bw hn hg
              cases hd
              have eg : ρ (.tmp 97) = .bool false := hg _ _ _ _ rfl rfl rfl
              have e99 : ρ (.tmp 99) = .bool false := hn 99 (by decide)
              have e136 : ρ (.tmp 136) = undef := hn 136 (by decide)
              clear hn hg
              refine .inl ⟨⟨_, _, rfl, rfl, eg⟩, ?_⟩
              have hc1 := hcs.1
              refine .inl ⟨.bool false, W, ?_, rfl, Below.refl _ _⟩
              go_simp
            refine And.intro ?_ ?_
            · intro d hd ρ W hcs bw hn hg
              cases hd
              have e97 : ρ (.tmp 97) = .bool false := hn 97 (by decide)
              have e137 : ρ (.tmp 137) = .bool false := hn 137 (by decide)
              clear hn hg
              refine .inl ⟨trivial, ?_⟩
              have hc1 := hcs.1
              refine .inl ⟨.bool false, W, ?_, rfl, Below.refl _ _⟩
              go_simp
            trivial
          · intro a' w' hsz hdf hb hVs
            have q138 : a'.eval (.tmp 138) = .bool false := hVs 138
            have ha := slot_over_seg 83 56 [] rfl (by kernel_rfl) (of_decide_eq_true (by kernel_rfl)) hsz hdf hVs
            clear hVs hsz hdf
            rw [show List.range' 83 56 = [83, 84, 85, 86, 87, 88, 89, 90, 91, 92, 93, 94, 95, 96, 97, 98, 99, 100, 101, 102, 103, 104, 105, 106, 107, 108, 109, 110, 111, 112, 113, 114, 115, 116, 117, 118, 119, 120, 121, 122, 123, 124, 125, 126, 127, 128, 129, 130, 131, 132, 133, 134, 135, 136, 137, 138] from rfl] at ha
            simp only [List.take_succ_cons, List.take_zero, List.drop_succ_cons, List.drop_zero, List.map_cons, List.map_nil, List.cons_append, List.nil_append, List.foldl_cons, List.foldl_nil, List.set_cons_zero, List.set_cons_succ, q138] at ha
            clear q138
            generalize a'.eval (.tmp 83) = x83 at ha
            generalize a'.eval (.tmp 84) = x84 at ha
            generalize a'.eval (.tmp 85) = x85 at ha
            generalize a'.eval (.tmp 86) = x86 at ha
            generalize a'.eval (.tmp 87) = x87 at ha
            generalize a'.eval (.tmp 88) = x88 at ha
            generalize a'.eval (.tmp 89) = x89 at ha
            generalize a'.eval (.tmp 90) = x90 at ha
            generalize a'.eval (.tmp 91) = x91 at ha
            generalize a'.eval (.tmp 92) = x92 at ha
            generalize a'.eval (.tmp 93) = x93 at ha
            generalize a'.eval (.tmp 94) = x94 at ha
            generalize a'.eval (.tmp 95) = x95 at ha
            generalize a'.eval (.tmp 96) = x96 at ha
            generalize a'.eval (.tmp 97) = x97 at ha
            generalize a'.eval (.tmp 98) = x98 at ha
            generalize a'.eval (.tmp 99) = x99 at ha
            generalize a'.eval (.tmp 100) = x100 at ha
            generalize a'.eval (.tmp 101) = x101 at ha
            generalize a'.eval (.tmp 102) = x102 at ha
            generalize a'.eval (.tmp 103) = x103 at ha
            generalize a'.eval (.tmp 104) = x104 at ha
            generalize a'.eval (.tmp 105) = x105 at ha
            generalize a'.eval (.tmp 106) = x106 at ha
            generalize a'.eval (.tmp 107) = x107 at ha
            generalize a'.eval (.tmp 108) = x108 at ha
            generalize a'.eval (.tmp 109) = x109 at ha
            generalize a'.eval (.tmp 110) = x110 at ha
            generalize a'.eval (.tmp 111) = x111 at ha
            generalize a'.eval (.tmp 112) = x112 at ha
            generalize a'.eval (.tmp 113) = x113 at ha
            generalize a'.eval (.tmp 114) = x114 at ha
            generalize a'.eval (.tmp 115) = x115 at ha
            generalize a'.eval (.tmp 116) = x116 at ha
            generalize a'.eval (.tmp 117) = x117 at ha
            generalize a'.eval (.tmp 118) = x118 at ha
            generalize a'.eval (.tmp 119) = x119 at ha
            generalize a'.eval (.tmp 120) = x120 at ha
            generalize a'.eval (.tmp 121) = x121 at ha
            generalize a'.eval (.tmp 122) = x122 at ha
            generalize a'.eval (.tmp 123) = x123 at ha
            generalize a'.eval (.tmp 124) = x124 at ha
            generalize a'.eval (.tmp 125) = x125 at ha
            generalize a'.eval (.tmp 126) = x126 at ha
            generalize a'.eval (.tmp 127) = x127 at ha
            generalize a'.eval (.tmp 128) = x128 at ha
            generalize a'.eval (.tmp 129) = x129 at ha
            generalize a'.eval (.tmp 130) = x130 at ha
            generalize a'.eval (.tmp 131) = x131 at ha
            generalize a'.eval (.tmp 132) = x132 at ha
            generalize a'.eval (.tmp 133) = x133 at ha
            generalize a'.eval (.tmp 134) = x134 at ha
            generalize a'.eval (.tmp 135) = x135 at ha
            generalize a'.eval (.tmp 136) = x136 at ha
            generalize a'.eval (.tmp 137) = x137 at ha
            subst ha
            have bw := BW.out.drew.trans (hb.mono BW.out.drew.size)
            have hc : ClAt w' g x := Blk.below hc hb (Blk.lt hc)
            have hv : Blk w' gw 36 #[.int .u8 (va : Int), .int .u32 (vb : Int), .int .u8 (vk : Int), .string ⟨vs.toArray⟩, .string ⟨vt.toArray⟩, .string ⟨vu.toArray⟩, .int .u8 (vz : Int)] := Blk.below hv hb (Blk.lt hv)
            have ho : Blk w' go 47 #[.int .u8 0, .int .u8 0, .int .u8 0, .int .u64 0, .int .u8 0, .int .u64 0, .int .u64 0, .int .u8 0, .string ⟨#[]⟩, .slice none 0 0, .slice none 0 0, .int .u8 0, .int .u32 0, .int .u8 0, .string ⟨#[]⟩, .string ⟨#[]⟩, .string ⟨#[]⟩, .int .u8 0, .int .u8 0, .string ⟨#[]⟩] := Blk.below ho hb (Blk.lt ho)
            have hi : Blk w' gi 47 #[.int .u8 0, .int .u8 0, .int .u8 0, .int .u64 0, .int .u8 0, .int .u64 0, .int .u64 0, .int .u8 0, .string ⟨#[]⟩, .slice none 0 0, .slice none 0 0, .int .u8 0, .int .u32 0, .int .u8 0, .string ⟨#[]⟩, .string ⟨#[]⟩, .string ⟨#[]⟩, .int .u8 0, .int .u8 0, .string ⟨#[]⟩] := Blk.below hi hb (Blk.lt hi)
            have hj : Blk w' gj 43 #[.int .u8 0, .string ⟨#[]⟩] := Blk.below hj hb (Blk.lt hj)
            clear hb BW
            go_wp2_with fail
            go_meet
            exact ⟨seq, took, x, lt0, false, rfl, rfl, rfl, hc, HI, by omega, hv, ho, bw, (fun h => by cases h), fun h _ => HWS.out h⟩
        · as_aux_lemma =>
          obtain rfl : waited = true := HWD.out.trans hw
          rw [he] at HC
          obtain ⟨out, hout⟩ : ∃ out, out = askL x' := ⟨_, rfl⟩
          rw [← hout] at HC
          obtain ⟨o0, o1, o2, o3, o4, o5, o6, o7, o8, o9, oA, ⟨oa, ob, ok, os, ot, ou, oz⟩, oB, oC⟩ := out
          obtain rfl : o9 = .slice none 0 0 := congrArg Lt.votes hout
          obtain rfl : oA = .slice none 0 0 := congrArg Lt.items hout
          have HOUT := Lib.hid hout
          clear hout
          have HC : Calls Try.prog 22 #[.pointer (some ⟨g, 0, none⟩), .agg #[.int .u8 (ls : Int), .int .u8 (ld : Int), .int .u8 (lk : Int), .int .u64 (lbn : Int), .int .u8 (lbr : Int), .int .u64 (lba : Int), .int .u64 (lsl : Int), .int .u8 (lno : Int), .string ⟨lv.toArray⟩, lvo, lit, .int .u8 (ya : Int), .int .u32 (yb : Int), .int .u8 (yk : Int), .string ⟨ys.toArray⟩, .string ⟨yt.toArray⟩, .string ⟨yu.toArray⟩, .int .u8 (yz : Int), .int .u8 (lco : Int), .string ⟨lte.toArray⟩]] w5 fun e w' => e = .returned (.tuple #[.agg #[.int .u8 (o0 : Int), .int .u8 (o1 : Int), .int .u8 (o2 : Int), .int .u64 (o3 : Int), .int .u8 (o4 : Int), .int .u64 (o5 : Int), .int .u64 (o6 : Int), .int .u8 (o7 : Int), .string ⟨o8.toArray⟩, .slice none 0 0, .slice none 0 0, .int .u8 (oa : Int), .int .u32 (ob : Int), .int .u8 (ok : Int), .string ⟨os.toArray⟩, .string ⟨ot.toArray⟩, .string ⟨ou.toArray⟩, .int .u8 (oz : Int), .int .u8 (oB : Int), .string ⟨oC.toArray⟩], .bool true, .agg #[.int .u8 0, .string ⟨#[]⟩], .bool false]) ∧ ClGo w5 g x' w' := HC
          have HC := Lib.hid HC
          have HI' := Lib.hid hI'
          have HW' := Lib.hid hw'
          clear hI' hw'
          have HCM := Lib.hid hcm
          clear hcm
          clear hw
          clear he hF
          go_wp2_with (refine wpList_load (by rfl) (.tmp 74) (by rfl) (by rfl) hldL ?_)
          refine HC.out.mono ?_; rintro e w6 ⟨rfl, hc6, G6⟩
          clear hldL HC hc
          have hc := hc6
          clear hc6
          have hv : Blk w6 gw 36 #[.int .u8 (va : Int), .int .u32 (vb : Int), .int .u8 (vk : Int), .string ⟨vs.toArray⟩, .string ⟨vt.toArray⟩, .string ⟨vu.toArray⟩, .int .u8 (vz : Int)] := Blk.grown hv G6 (fun he => by have := Option.some.inj he; omega)
          have ho : Blk w6 go 47 #[.int .u8 0, .int .u8 0, .int .u8 0, .int .u64 0, .int .u8 0, .int .u64 0, .int .u64 0, .int .u8 0, .string ⟨#[]⟩, .slice none 0 0, .slice none 0 0, .int .u8 0, .int .u32 0, .int .u8 0, .string ⟨#[]⟩, .string ⟨#[]⟩, .string ⟨#[]⟩, .int .u8 0, .int .u8 0, .string ⟨#[]⟩] := Blk.grown ho G6 (fun he => by have := Option.some.inj he; omega)
          have bw := bw.grown G6 bw.size (fun k hk => by cases hk; omega)
          clear G6
          have lt3_0 := Blk.lt hc
          have lt3_1 := Blk.lt hv
          have lt3_2 := Blk.lt ho
          have lt3_w := bw.size
          have kl := (Blk.new w6 47 #[.int .u8 0, .int .u8 0, .int .u8 0, .int .u64 0, .int .u8 0, .int .u64 0, .int .u64 0, .int .u8 0, .string ⟨#[]⟩, .slice none 0 0, .slice none 0 0, .int .u8 0, .int .u32 0, .int .u8 0, .string ⟨#[]⟩, .string ⟨#[]⟩, .string ⟨#[]⟩, .int .u8 0, .int .u8 0, .string ⟨#[]⟩]).alloc (.cells #[.int .u8 0, .string ⟨#[]⟩] 43)
          have kr := Blk.new (w6.alloc (.cells #[.int .u8 0, .int .u8 0, .int .u8 0, .int .u64 0, .int .u8 0, .int .u64 0, .int .u64 0, .int .u8 0, .string ⟨#[]⟩, .slice none 0 0, .slice none 0 0, .int .u8 0, .int .u32 0, .int .u8 0, .string ⟨#[]⟩, .string ⟨#[]⟩, .string ⟨#[]⟩, .int .u8 0, .int .u8 0, .string ⟨#[]⟩] 47)) 43 #[.int .u8 0, .string ⟨#[]⟩]
          have es : (w6.alloc (.cells #[.int .u8 0, .int .u8 0, .int .u8 0, .int .u64 0, .int .u8 0, .int .u64 0, .int .u64 0, .int .u8 0, .string ⟨#[]⟩, .slice none 0 0, .slice none 0 0, .int .u8 0, .int .u32 0, .int .u8 0, .string ⟨#[]⟩, .string ⟨#[]⟩, .string ⟨#[]⟩, .int .u8 0, .int .u8 0, .string ⟨#[]⟩] 47)).heap.size = w6.heap.size + 1 := by simp
          rw [es] at kr
          obtain ⟨gi, hgi⟩ : ∃ g, g = w6.heap.size := ⟨_, rfl⟩
          obtain ⟨gj, hgj⟩ : ∃ g, g = w6.heap.size + 1 := ⟨_, rfl⟩
          obtain ⟨w7, hstA, w8, hstB, n_hc, n_hv, n_ho, hi, hj, n_bw⟩ : ∃ w7, (Instr.storeAt 47 (.pointer (some ⟨w6.heap.size, 0, none⟩)) (.agg #[.int .u8 (o0 : Int), .int .u8 (o1 : Int), .int .u8 (o2 : Int), .int .u64 (o3 : Int), .int .u8 (o4 : Int), .int .u64 (o5 : Int), .int .u64 (o6 : Int), .int .u8 (o7 : Int), .string ⟨o8.toArray⟩, .slice none 0 0, .slice none 0 0, .int .u8 (oa : Int), .int .u32 (ob : Int), .int .u8 (ok : Int), .string ⟨os.toArray⟩, .string ⟨ot.toArray⟩, .string ⟨ou.toArray⟩, .int .u8 (oz : Int), .int .u8 (oB : Int), .string ⟨oC.toArray⟩])).run Try.prog ((w6.alloc (.cells #[.int .u8 0, .int .u8 0, .int .u8 0, .int .u64 0, .int .u8 0, .int .u64 0, .int .u64 0, .int .u8 0, .string ⟨#[]⟩, .slice none 0 0, .slice none 0 0, .int .u8 0, .int .u32 0, .int .u8 0, .string ⟨#[]⟩, .string ⟨#[]⟩, .string ⟨#[]⟩, .int .u8 0, .int .u8 0, .string ⟨#[]⟩] 47)).alloc (.cells #[.int .u8 0, .string ⟨#[]⟩] 43)) = .ok () w7 ∧ ∃ w8, (Instr.storeAt 43 (.pointer (some ⟨w6.heap.size + 1, 0, none⟩)) (.agg #[.int .u8 0, .string ⟨#[]⟩])).run Try.prog w7 = .ok () w8 ∧ ClAt w8 g x' ∧ Blk w8 gw 36 #[.int .u8 (va : Int), .int .u32 (vb : Int), .int .u8 (vk : Int), .string ⟨vs.toArray⟩, .string ⟨vt.toArray⟩, .string ⟨vu.toArray⟩, .int .u8 (vz : Int)] ∧ Blk w8 go 47 #[.int .u8 0, .int .u8 0, .int .u8 0, .int .u64 0, .int .u8 0, .int .u64 0, .int .u64 0, .int .u8 0, .string ⟨#[]⟩, .slice none 0 0, .slice none 0 0, .int .u8 0, .int .u32 0, .int .u8 0, .string ⟨#[]⟩, .string ⟨#[]⟩, .string ⟨#[]⟩, .int .u8 0, .int .u8 0, .string ⟨#[]⟩] ∧ Blk w8 gi 47 #[.int .u8 (o0 : Int), .int .u8 (o1 : Int), .int .u8 (o2 : Int), .int .u64 (o3 : Int), .int .u8 (o4 : Int), .int .u64 (o5 : Int), .int .u64 (o6 : Int), .int .u8 (o7 : Int), .string ⟨o8.toArray⟩, .slice none 0 0, .slice none 0 0, .int .u8 (oa : Int), .int .u32 (ob : Int), .int .u8 (ok : Int), .string ⟨os.toArray⟩, .string ⟨ot.toArray⟩, .string ⟨ou.toArray⟩, .int .u8 (oz : Int), .int .u8 (oB : Int), .string ⟨oC.toArray⟩] ∧ Blk w8 gj 43 #[.int .u8 0, .string ⟨#[]⟩] ∧ Below w.heap.size w w8 :=
            ⟨_, blk_store kl (by rfl) size_lt (by rfl), _, blk_store (kr.setRowFar (by omega)) (by rfl) size_reply (by rfl), Blk.setRowFar (Blk.setRowFar (Blk.alloc (Blk.alloc hc _) _) (by omega)) (by omega), Blk.setRowFar (Blk.setRowFar (Blk.alloc (Blk.alloc hv _) _) (by omega)) (by omega), Blk.setRowFar (Blk.setRowFar (Blk.alloc (Blk.alloc ho _) _) (by omega)) (by omega), (by rw [hgi]; exact kl.setRow.setRowFar (by omega)), (by rw [hgj]; exact (kr.setRowFar (by omega)).setRow), below_setRow (below_setRow ((bw.alloc bw.size _).alloc (by rw [es]; omega) _) (by omega)) (by omega)⟩
          have ne_gi_g : gi ≠ g := by omega
          have ne_gi_gw : gi ≠ gw := by omega
          have ne_gi_go : gi ≠ go := by omega
          have le_gi : w.heap.size ≤ gi := by omega
          have ne_gj_g : gj ≠ g := by omega
          have ne_gj_gw : gj ≠ gw := by omega
          have ne_gj_go : gj ≠ go := by omega
          have ne_gj_gi : gj ≠ gi := by omega
          have le_gj : w.heap.size ≤ gj := by omega
          clear kl kr es bw hc hv ho lt3_0 lt3_1 lt3_2 lt3_w
          have hc := n_hc
          have hv := n_hv
          have ho := n_ho
          have bw := n_bw
          clear n_bw n_hc n_hv n_ho
          go_upto_region 15 with (first | refine wpList_store (by rfl) (.tmp 20) (.tmp 77) (by rfl) (by rfl) (by rfl) hstA ?_ | refine wpList_store (by rfl) (.tmp 22) (.tmp 79) (by rfl) (by rfl) (by rfl) hstB ?_)
          rw [← hgj]
          clear hstB hgj
          rw [← hgi]
          clear hstA hgi
          have hld16 := blk_load (P := Try.prog) (ty := 47) hi Try.underlying47 rfl size_lt
          obtain ⟨w9, hst, n_hc, n_hv, n_hi, n_hj, n_ho, n_bw⟩ : ∃ w9, (Instr.storeAt 47 (.pointer (some ⟨go, 0, none⟩)) (.agg #[.int .u8 (o0 : Int), .int .u8 (o1 : Int), .int .u8 (o2 : Int), .int .u64 (o3 : Int), .int .u8 (o4 : Int), .int .u64 (o5 : Int), .int .u64 (o6 : Int), .int .u8 (o7 : Int), .string ⟨o8.toArray⟩, .slice none 0 0, .slice none 0 0, .int .u8 (oa : Int), .int .u32 (ob : Int), .int .u8 (ok : Int), .string ⟨os.toArray⟩, .string ⟨ot.toArray⟩, .string ⟨ou.toArray⟩, .int .u8 (oz : Int), .int .u8 (oB : Int), .string ⟨oC.toArray⟩])).run Try.prog w8 = .ok () w9 ∧ ClAt w9 g x' ∧ Blk w9 gw 36 #[.int .u8 (va : Int), .int .u32 (vb : Int), .int .u8 (vk : Int), .string ⟨vs.toArray⟩, .string ⟨vt.toArray⟩, .string ⟨vu.toArray⟩, .int .u8 (vz : Int)] ∧ Blk w9 gi 47 #[.int .u8 (o0 : Int), .int .u8 (o1 : Int), .int .u8 (o2 : Int), .int .u64 (o3 : Int), .int .u8 (o4 : Int), .int .u64 (o5 : Int), .int .u64 (o6 : Int), .int .u8 (o7 : Int), .string ⟨o8.toArray⟩, .slice none 0 0, .slice none 0 0, .int .u8 (oa : Int), .int .u32 (ob : Int), .int .u8 (ok : Int), .string ⟨os.toArray⟩, .string ⟨ot.toArray⟩, .string ⟨ou.toArray⟩, .int .u8 (oz : Int), .int .u8 (oB : Int), .string ⟨oC.toArray⟩] ∧ Blk w9 gj 43 #[.int .u8 0, .string ⟨#[]⟩] ∧ Blk w9 go 47 #[.int .u8 (o0 : Int), .int .u8 (o1 : Int), .int .u8 (o2 : Int), .int .u64 (o3 : Int), .int .u8 (o4 : Int), .int .u64 (o5 : Int), .int .u64 (o6 : Int), .int .u8 (o7 : Int), .string ⟨o8.toArray⟩, .slice none 0 0, .slice none 0 0, .int .u8 (oa : Int), .int .u32 (ob : Int), .int .u8 (ok : Int), .string ⟨os.toArray⟩, .string ⟨ot.toArray⟩, .string ⟨ou.toArray⟩, .int .u8 (oz : Int), .int .u8 (oB : Int), .string ⟨oC.toArray⟩] ∧ Below w.heap.size w w9 :=
            ⟨_, blk_store ho (by rfl) size_lt (by rfl), Blk.setRowFar hc (by omega), Blk.setRowFar hv (by omega), Blk.setRowFar hi (by omega), Blk.setRowFar hj (by omega), Blk.setRow ho, below_setRow bw (by omega)⟩
          clear bw hc hv ho hi hj
          have hc := n_hc
          have hv := n_hv
          have ho := n_ho
          have hi := n_hi
          have hj := n_hj
          have bw := n_bw
          clear n_bw n_hc n_hv n_ho n_hi n_hj
          go_upto_region 17 with (first | refine wpList_load (by rfl) (.tmp 20) (by rfl) (by rfl) hld16 ?_ | refine wpList_store (by rfl) (.tmp 14) (.tmp 81) (by rfl) (by rfl) (by rfl) hst ?_)
          have BW := Lib.hid bw
          have hc := Blk.drew hc
          have hv := Blk.drew hv
          have ho := Blk.drew ho
          have hi := Blk.drew hi
          have hj := Blk.drew hj
          clear bw
          refine region_inv2 (by kernel_rfl) [] [(83, .bool true), (84, .bool true), (85, .bool false), (86, .bool false), (87, .bool false), (88, .bool true), (89, .bool true), (90, undef), (91, .bool true), (92, .bool true), (93, .bool true), (94, .bool false), (95, .bool false), (96, .bool false), (97, .bool false), (98, .bool false), (99, .bool false), (100, undef), (101, undef), (102, undef), (103, undef), (104, undef), (105, undef), (106, undef), (107, undef), (108, undef), (109, undef), (110, undef), (111, undef), (112, undef), (113, undef), (114, undef), (115, undef), (116, undef), (117, undef), (118, undef), (119, undef), (120, undef), (121, undef), (122, undef), (123, undef), (124, undef), (125, undef), (126, undef), (127, undef), (128, undef), (129, undef), (130, undef), (131, undef), (132, undef), (133, undef), (134, undef), (135, undef), (136, undef), (137, .bool false), (138, .bool false)] (by kernel_rfl) (by kernel_rfl) rfl (by kernel_rfl) ?_ ?_ ?_
          · intro q hq; cases hq
          · refine And.intro ?_ ?_
            · intro d hd ρ W hcs bw hn hg
              cases hd
              have e21 : ρ (.tmp 21) = .bool true := hn 21 (by decide)
              clear hn hg
              refine .inl ⟨trivial, ?_⟩
              refine .inl ⟨_, W, rfl, e21, Below.refl _ _⟩
            refine And.intro ?_ ?_
            · intro d hd ρ W hcs bw hn hg
              cases hd
              have e83 : ρ (.tmp 83) = .bool true := hn 83 (by decide)
              clear hn hg
              refine .inl ⟨trivial, ?_⟩
              refine .inl ⟨_, W, rfl, e83, Below.refl _ _⟩
            refine And.intro ?_ ?_
            · intro d hd ρ W hcs bw hn hg
              cases hd
              have eg : ρ (.tmp 84) = .bool true := hg _ _ _ _ rfl rfl rfl
              have e23 : ρ (.tmp 23) = .bool false := hn 23 (by decide)
              clear hn hg
              refine .inl ⟨⟨_, _, rfl, rfl, eg⟩, ?_⟩
              refine .inl ⟨_, W, rfl, e23, Below.refl _ _⟩
            refine And.intro ?_ ?_
            · intro d hd ρ W hcs bw hn hg
              cases hd
              have e84 : ρ (.tmp 84) = .bool true := hn 84 (by decide)
              have e85 : ρ (.tmp 85) = .bool false := hn 85 (by decide)
              clear hn hg
              refine .inl ⟨trivial, ?_⟩
              have hc1 := hcs.1
              refine .inl ⟨.bool false, W, ?_, rfl, Below.refl _ _⟩
              go_simp
            refine And.intro ?_ ?_
            · intro d hd ρ W hcs bw hn hg
              cases hd
              have e86 : ρ (.tmp 86) = .bool false := hn 86 (by decide)
              clear hn hg
              refine .inl ⟨trivial, ?_⟩
              refine .inl ⟨_, W, rfl, e86, Below.refl _ _⟩
            refine And.intro ?_ ?_
            · intro d hd ρ W hcs bw hn hg
              cases hd
              have eg : ρ (.tmp 87) = .bool false := hg _ _ _ _ rfl rfl rfl
              have e21 : ρ (.tmp 21) = .bool true := hn 21 (by decide)
              clear hn hg
              refine .inl ⟨⟨_, _, rfl, rfl, eg⟩, ?_⟩
              refine .inl ⟨_, W, rfl, e21, Below.refl _ _⟩
            refine And.intro ?_ ?_
            · intro d hd ρ W hcs bw hn hg
              cases hd
              have eg : ρ (.tmp 87) = .bool false := hg _ _ _ _ rfl rfl rfl
              have e88 : ρ (.tmp 88) = .bool true := hn 88 (by decide)
              clear hn hg
              refine .inl ⟨⟨_, _, rfl, rfl, eg⟩, ?_⟩
              refine .inl ⟨_, W, rfl, e88, Below.refl _ _⟩
            refine And.intro ?_ ?_
            · intro d hd ρ W hcs bw hn hg
              cases hd
              have eg : ρ (.tmp 89) = .bool true := hg _ _ _ _ rfl rfl rfl
              exact .inr ⟨⟨_, _, _, rfl, rfl, eg, nofun⟩, rfl⟩
            refine And.intro ?_ ?_
            · intro d hd ρ W hcs bw hn hg
              cases hd
              have eg : ρ (.tmp 87) = .bool false := hg _ _ _ _ rfl rfl rfl
              have e89 : ρ (.tmp 89) = .bool true := hn 89 (by decide)
              have e90 : ρ (.tmp 90) = undef := hn 90 (by decide)
              clear hn hg
              refine .inl ⟨⟨_, _, rfl, rfl, eg⟩, ?_⟩
              have hc1 := hcs.1
              refine .inl ⟨.bool true, W, ?_, rfl, Below.refl _ _⟩
              go_simp
            refine And.intro ?_ ?_
            · intro d hd ρ W hcs bw hn hg
              cases hd
              have eg : ρ (.tmp 87) = .bool false := hg _ _ _ _ rfl rfl rfl
              have e91 : ρ (.tmp 91) = .bool true := hn 91 (by decide)
              clear hn hg
              refine .inl ⟨⟨_, _, rfl, rfl, eg⟩, ?_⟩
              refine .inl ⟨_, W, rfl, e91, Below.refl _ _⟩
            refine And.intro ?_ ?_
            · intro d hd ρ W hcs bw hn hg
              cases hd
              have eg : ρ (.tmp 92) = .bool true := hg _ _ _ _ rfl rfl rfl
              have e13 : ρ (.tmp 13) = .bool true := hn 13 (by decide)
              clear hn hg
              refine .inl ⟨⟨_, _, rfl, rfl, eg⟩, ?_⟩
              refine .inl ⟨_, W, rfl, e13, Below.refl _ _⟩
            refine And.intro ?_ ?_
            · intro d hd ρ W hcs bw hn hg
              cases hd
              have eg : ρ (.tmp 92) = .bool true := hg _ _ _ _ rfl rfl rfl
              have e93 : ρ (.tmp 93) = .bool true := hn 93 (by decide)
              clear hn hg
              refine .inl ⟨⟨_, _, rfl, rfl, eg⟩, ?_⟩
              refine .inl ⟨.bool false, W, ?_, rfl, Below.refl _ _⟩
              go_simp
            refine And.intro ?_ ?_
            · intro d hd ρ W hcs bw hn hg
              cases hd
              have eg : ρ (.tmp 87) = .bool false := hg _ _ _ _ rfl rfl rfl
              have e92 : ρ (.tmp 92) = .bool true := hn 92 (by decide)
              have e94 : ρ (.tmp 94) = .bool false := hn 94 (by decide)
              clear hn hg
              refine .inl ⟨⟨_, _, rfl, rfl, eg⟩, ?_⟩
              have hc1 := hcs.1
              refine .inl ⟨.bool false, W, ?_, rfl, Below.refl _ _⟩
              go_simp
            refine And.intro ?_ ?_
            · intro d hd ρ W hcs bw hn hg
              cases hd
              have e87 : ρ (.tmp 87) = .bool false := hn 87 (by decide)
              have e95 : ρ (.tmp 95) = .bool false := hn 95 (by decide)
              clear hn hg
              refine .inl ⟨trivial, ?_⟩
              have hc1 := hcs.1
              refine .inl ⟨.bool false, W, ?_, rfl, Below.refl _ _⟩
              go_simp
            refine And.intro ?_ ?_
            · intro d hd ρ W hcs bw hn hg
              cases hd
              have e96 : ρ (.tmp 96) = .bool false := hn 96 (by decide)
              clear hn hg
              refine .inl ⟨trivial, ?_⟩
              refine .inl ⟨_, W, rfl, e96, Below.refl _ _⟩
            refine And.intro ?_ ?_
            · intro d hd ρ W hcs bw hn hg
              cases hd
              have eg : ρ (.tmp 97) = .bool false := hg _ _ _ _ rfl rfl rfl
              have e23 : ρ (.tmp 23) = .bool false := hn 23 (by decide)
              clear hn hg
              refine .inl ⟨⟨_, _, rfl, rfl, eg⟩, ?_⟩
              refine .inl ⟨_, W, rfl, e23, Below.refl _ _⟩
            refine And.intro ?_ ?_
            · intro d hd ρ W hcs bw hn hg
              cases hd
              have eg : ρ (.tmp 97) = .bool false := hg _ _ _ _ rfl rfl rfl
              have e98 : ρ (.tmp 98) = .bool false := hn 98 (by decide)
              clear hn hg
              refine .inl ⟨⟨_, _, rfl, rfl, eg⟩, ?_⟩
              refine .inl ⟨_, W, rfl, e98, Below.refl _ _⟩
            refine And.intro ?_ ?_
            · intro d hd ρ W hcs bw hn hg
              cases hd
              have eg : ρ (.tmp 99) = .bool false := hg _ _ _ _ rfl rfl rfl
              exact .inr ⟨⟨_, _, _, rfl, rfl, eg, nofun⟩, rfl⟩
            refine And.intro ?_ ?_
            · intro d hd ρ W hcs bw hn hg
              cases hd
              have eg : ρ (.tmp 99) = .bool false := hg _ _ _ _ rfl rfl rfl
              exact .inr ⟨⟨_, _, _, rfl, rfl, eg, nofun⟩, rfl⟩
            refine And.intro ?_ ?_
            · intro d hd ρ W hcs bw hn hg
              cases hd
              have eg : ρ (.tmp 99) = .bool false := hg _ _ _ _ rfl rfl rfl
              exact .inr ⟨⟨_, _, _, rfl, rfl, eg, nofun⟩, rfl⟩
            refine And.intro ?_ ?_
            · intro d hd ρ W hcs bw hn hg
              cases hd
              have eg : ρ (.tmp 99) = .bool false := hg _ _ _ _ rfl rfl rfl
              exact .inr ⟨⟨_, _, _, rfl, rfl, eg, nofun⟩, rfl⟩
            refine And.intro ?_ ?_
            · intro d hd ρ W hcs bw hn hg
              cases hd
              have eg : ρ (.tmp 103) = undef := hg _ _ _ _ rfl rfl rfl
              exact .inr ⟨⟨_, _, _, rfl, rfl, eg, nofun⟩, rfl⟩
            refine And.intro ?_ ?_
            · intro d hd ρ W hcs bw hn hg
              cases hd
              have eg : ρ (.tmp 103) = undef := hg _ _ _ _ rfl rfl rfl
              exact .inr ⟨⟨_, _, _, rfl, rfl, eg, nofun⟩, rfl⟩
            refine And.intro ?_ ?_
            · intro d hd ρ W hcs bw hn hg
              cases hd
              have eg : ρ (.tmp 103) = undef := hg _ _ _ _ rfl rfl rfl
              exact .inr ⟨⟨_, _, _, rfl, rfl, eg, nofun⟩, rfl⟩
            refine And.intro ?_ ?_
            · intro d hd ρ W hcs bw hn hg
              cases hd
              have eg : ρ (.tmp 103) = undef := hg _ _ _ _ rfl rfl rfl
              exact .inr ⟨⟨_, _, _, rfl, rfl, eg, nofun⟩, rfl⟩
            refine And.intro ?_ ?_
            · intro d hd ρ W hcs bw hn hg
              cases hd
              have eg : ρ (.tmp 103) = undef := hg _ _ _ _ rfl rfl rfl
              exact .inr ⟨⟨_, _, _, rfl, rfl, eg, nofun⟩, rfl⟩
            refine And.intro ?_ ?_
            · intro d hd ρ W hcs bw hn hg
              cases hd
              have eg : ρ (.tmp 103) = undef := hg _ _ _ _ rfl rfl rfl
              exact .inr ⟨⟨_, _, _, rfl, rfl, eg, nofun⟩, rfl⟩
            refine And.intro ?_ ?_
            · intro d hd ρ W hcs bw hn hg
              cases hd
              have eg : ρ (.tmp 103) = undef := hg _ _ _ _ rfl rfl rfl
              exact .inr ⟨⟨_, _, _, rfl, rfl, eg, nofun⟩, rfl⟩
            refine And.intro ?_ ?_
            · intro d hd ρ W hcs bw hn hg
              cases hd
              have eg : ρ (.tmp 103) = undef := hg _ _ _ _ rfl rfl rfl
              exact .inr ⟨⟨_, _, _, rfl, rfl, eg, nofun⟩, rfl⟩
            refine And.intro ?_ ?_
            · intro d hd ρ W hcs bw hn hg
              cases hd
              have eg : ρ (.tmp 99) = .bool false := hg _ _ _ _ rfl rfl rfl
              exact .inr ⟨⟨_, _, _, rfl, rfl, eg, nofun⟩, rfl⟩
            refine And.intro ?_ ?_
            · intro d hd ρ W hcs bw hn hg
              cases hd
              have eg : ρ (.tmp 99) = .bool false := hg _ _ _ _ rfl rfl rfl
              exact .inr ⟨⟨_, _, _, rfl, rfl, eg, nofun⟩, rfl⟩
            refine And.intro ?_ ?_
            · intro d hd ρ W hcs bw hn hg
              cases hd
              have eg : ρ (.tmp 113) = undef := hg _ _ _ _ rfl rfl rfl
              exact .inr ⟨⟨_, _, _, rfl, rfl, eg, nofun⟩, rfl⟩
            refine And.intro ?_ ?_
            · intro d hd ρ W hcs bw hn hg
              cases hd
              have eg : ρ (.tmp 113) = undef := hg _ _ _ _ rfl rfl rfl
              exact .inr ⟨⟨_, _, _, rfl, rfl, eg, nofun⟩, rfl⟩
            refine And.intro ?_ ?_
            · intro d hd ρ W hcs bw hn hg
              cases hd
              have eg : ρ (.tmp 113) = undef := hg _ _ _ _ rfl rfl rfl
              exact .inr ⟨⟨_, _, _, rfl, rfl, eg, nofun⟩, rfl⟩
            refine And.intro ?_ ?_
            · intro d hd ρ W hcs bw hn hg
              cases hd
              have eg : ρ (.tmp 113) = undef := hg _ _ _ _ rfl rfl rfl
              exact .inr ⟨⟨_, _, _, rfl, rfl, eg, nofun⟩, rfl⟩
            refine And.intro ?_ ?_
            · intro d hd ρ W hcs bw hn hg
              cases hd
              have eg : ρ (.tmp 113) = undef := hg _ _ _ _ rfl rfl rfl
              exact .inr ⟨⟨_, _, _, rfl, rfl, eg, nofun⟩, rfl⟩
            refine And.intro ?_ ?_
            · intro d hd ρ W hcs bw hn hg
              cases hd
              have eg : ρ (.tmp 113) = undef := hg _ _ _ _ rfl rfl rfl
              exact .inr ⟨⟨_, _, _, rfl, rfl, eg, nofun⟩, rfl⟩
            refine And.intro ?_ ?_
            · intro d hd ρ W hcs bw hn hg
              cases hd
              have eg : ρ (.tmp 113) = undef := hg _ _ _ _ rfl rfl rfl
              exact .inr ⟨⟨_, _, _, rfl, rfl, eg, nofun⟩, rfl⟩
            refine And.intro ?_ ?_
            · intro d hd ρ W hcs bw hn hg
              cases hd
              have eg : ρ (.tmp 113) = undef := hg _ _ _ _ rfl rfl rfl
              exact .inr ⟨⟨_, _, _, rfl, rfl, eg, nofun⟩, rfl⟩
            refine And.intro ?_ ?_
            · intro d hd ρ W hcs bw hn hg
              cases hd
              have eg : ρ (.tmp 113) = undef := hg _ _ _ _ rfl rfl rfl
              exact .inr ⟨⟨_, _, _, rfl, rfl, eg, nofun⟩, rfl⟩
            refine And.intro ?_ ?_
            · intro d hd ρ W hcs bw hn hg
              cases hd
              have eg : ρ (.tmp 113) = undef := hg _ _ _ _ rfl rfl rfl
              exact .inr ⟨⟨_, _, _, rfl, rfl, eg, nofun⟩, rfl⟩
            refine And.intro ?_ ?_
            · intro d hd ρ W hcs bw hn hg
              cases hd
              have eg : ρ (.tmp 113) = undef := hg _ _ _ _ rfl rfl rfl
              exact .inr ⟨⟨_, _, _, rfl, rfl, eg, nofun⟩, rfl⟩
            refine And.intro ?_ ?_
            · intro d hd ρ W hcs bw hn hg
              cases hd
              have eg : ρ (.tmp 99) = .bool false := hg _ _ _ _ rfl rfl rfl
              exact .inr ⟨⟨_, _, _, rfl, rfl, eg, nofun⟩, rfl⟩
            refine And.intro ?_ ?_
            · intro d hd ρ W hcs bw hn hg
              cases hd
              have eg : ρ (.tmp 99) = .bool false := hg _ _ _ _ rfl rfl rfl
              exact .inr ⟨⟨_, _, _, rfl, rfl, eg, nofun⟩, rfl⟩
            refine And.intro ?_ ?_
            · intro d hd ρ W hcs bw hn hg
              cases hd
              have eg : ρ (.tmp 126) = undef := hg _ _ _ _ rfl rfl rfl
              exact .inr ⟨⟨_, _, _, rfl, rfl, eg, nofun⟩, rfl⟩
            refine And.intro ?_ ?_
            · intro d hd ρ W hcs bw hn hg
              cases hd
              have eg : ρ (.tmp 126) = undef := hg _ _ _ _ rfl rfl rfl
              exact .inr ⟨⟨_, _, _, rfl, rfl, eg, nofun⟩, rfl⟩
            refine And.intro ?_ ?_
            · intro d hd ρ W hcs bw hn hg
              cases hd
              have eg : ρ (.tmp 126) = undef := hg _ _ _ _ rfl rfl rfl
              exact .inr ⟨⟨_, _, _, rfl, rfl, eg, nofun⟩, rfl⟩
            refine And.intro ?_ ?_
            · intro d hd ρ W hcs bw hn hg
              cases hd
              have eg : ρ (.tmp 126) = undef := hg _ _ _ _ rfl rfl rfl
              exact .inr ⟨⟨_, _, _, rfl, rfl, eg, nofun⟩, rfl⟩
            refine And.intro ?_ ?_
            · intro d hd ρ W hcs bw hn hg
              cases hd
              have eg : ρ (.tmp 126) = undef := hg _ _ _ _ rfl rfl rfl
              exact .inr ⟨⟨_, _, _, rfl, rfl, eg, nofun⟩, rfl⟩
            refine And.intro ?_ ?_
            · intro d hd ρ W hcs bw hn hg
              cases hd
              have eg : ρ (.tmp 126) = undef := hg _ _ _ _ rfl rfl rfl
              exact .inr ⟨⟨_, _, _, rfl, rfl, eg, nofun⟩, rfl⟩
            refine And.intro ?_ ?_
            · intro d hd ρ W hcs bw hn hg
              cases hd
              have eg : ρ (.tmp 126) = undef := hg _ _ _ _ rfl rfl rfl
              exact .inr ⟨⟨_, _, _, rfl, rfl, eg, nofun⟩, rfl⟩
            refine And.intro ?_ ?_
            · intro d hd ρ W hcs bw hn hg
              cases hd
              have eg : ρ (.tmp 126) = undef := hg _ _ _ _ rfl rfl rfl
              exact .inr ⟨⟨_, _, _, rfl, rfl, eg, nofun⟩, rfl⟩
            refine And.intro ?_ ?_
            · intro d hd ρ W hcs bw hn hg
              cases hd
              have eg : ρ (.tmp 126) = undef := hg _ _ _ _ rfl rfl rfl
              exact .inr ⟨⟨_, _, _, rfl, rfl, eg, nofun⟩, rfl⟩
            refine And.intro ?_ ?_
            · intro d hd ρ W hcs bw hn hg
              cases hd
              have eg : ρ (.tmp 99) = .bool false := hg _ _ _ _ rfl rfl rfl
              exact .inr ⟨⟨_, _, _, rfl, rfl, eg, nofun⟩, rfl⟩
            refine And.intro ?_ ?_
            · intro d hd ρ W hcs bw hn hg
              cases hd
              have eg : ρ (.tmp 97) = .bool false := hg _ _ _ _ rfl rfl rfl
              have e99 : ρ (.tmp 99) = .bool false := hn 99 (by decide)
              have e136 : ρ (.tmp 136) = undef := hn 136 (by decide)
              clear hn hg
              refine .inl ⟨⟨_, _, rfl, rfl, eg⟩, ?_⟩
              have hc1 := hcs.1
              refine .inl ⟨.bool false, W, ?_, rfl, Below.refl _ _⟩
              go_simp
            refine And.intro ?_ ?_
            · intro d hd ρ W hcs bw hn hg
              cases hd
              have e97 : ρ (.tmp 97) = .bool false := hn 97 (by decide)
              have e137 : ρ (.tmp 137) = .bool false := hn 137 (by decide)
              clear hn hg
              refine .inl ⟨trivial, ?_⟩
              have hc1 := hcs.1
              refine .inl ⟨.bool false, W, ?_, rfl, Below.refl _ _⟩
              go_simp
            trivial
          · intro a' w' hsz hdf hb hVs
            have q138 : a'.eval (.tmp 138) = .bool false := hVs 138
            have ha := slot_over_seg 83 56 [] rfl (by kernel_rfl) (of_decide_eq_true (by kernel_rfl)) hsz hdf hVs
            clear hVs hsz hdf
            rw [show List.range' 83 56 = [83, 84, 85, 86, 87, 88, 89, 90, 91, 92, 93, 94, 95, 96, 97, 98, 99, 100, 101, 102, 103, 104, 105, 106, 107, 108, 109, 110, 111, 112, 113, 114, 115, 116, 117, 118, 119, 120, 121, 122, 123, 124, 125, 126, 127, 128, 129, 130, 131, 132, 133, 134, 135, 136, 137, 138] from rfl] at ha
            simp only [List.take_succ_cons, List.take_zero, List.drop_succ_cons, List.drop_zero, List.map_cons, List.map_nil, List.cons_append, List.nil_append, List.foldl_cons, List.foldl_nil, List.set_cons_zero, List.set_cons_succ, q138] at ha
            clear q138
            generalize a'.eval (.tmp 83) = x83 at ha
            generalize a'.eval (.tmp 84) = x84 at ha
            generalize a'.eval (.tmp 85) = x85 at ha
            generalize a'.eval (.tmp 86) = x86 at ha
            generalize a'.eval (.tmp 87) = x87 at ha
            generalize a'.eval (.tmp 88) = x88 at ha
            generalize a'.eval (.tmp 89) = x89 at ha
            generalize a'.eval (.tmp 90) = x90 at ha
            generalize a'.eval (.tmp 91) = x91 at ha
            generalize a'.eval (.tmp 92) = x92 at ha
            generalize a'.eval (.tmp 93) = x93 at ha
            generalize a'.eval (.tmp 94) = x94 at ha
            generalize a'.eval (.tmp 95) = x95 at ha
            generalize a'.eval (.tmp 96) = x96 at ha
            generalize a'.eval (.tmp 97) = x97 at ha
            generalize a'.eval (.tmp 98) = x98 at ha
            generalize a'.eval (.tmp 99) = x99 at ha
            generalize a'.eval (.tmp 100) = x100 at ha
            generalize a'.eval (.tmp 101) = x101 at ha
            generalize a'.eval (.tmp 102) = x102 at ha
            generalize a'.eval (.tmp 103) = x103 at ha
            generalize a'.eval (.tmp 104) = x104 at ha
            generalize a'.eval (.tmp 105) = x105 at ha
            generalize a'.eval (.tmp 106) = x106 at ha
            generalize a'.eval (.tmp 107) = x107 at ha
            generalize a'.eval (.tmp 108) = x108 at ha
            generalize a'.eval (.tmp 109) = x109 at ha
            generalize a'.eval (.tmp 110) = x110 at ha
            generalize a'.eval (.tmp 111) = x111 at ha
            generalize a'.eval (.tmp 112) = x112 at ha
            generalize a'.eval (.tmp 113) = x113 at ha
            generalize a'.eval (.tmp 114) = x114 at ha
            generalize a'.eval (.tmp 115) = x115 at ha
            generalize a'.eval (.tmp 116) = x116 at ha
            generalize a'.eval (.tmp 117) = x117 at ha
            generalize a'.eval (.tmp 118) = x118 at ha
            generalize a'.eval (.tmp 119) = x119 at ha
            generalize a'.eval (.tmp 120) = x120 at ha
            generalize a'.eval (.tmp 121) = x121 at ha
            generalize a'.eval (.tmp 122) = x122 at ha
            generalize a'.eval (.tmp 123) = x123 at ha
            generalize a'.eval (.tmp 124) = x124 at ha
            generalize a'.eval (.tmp 125) = x125 at ha
            generalize a'.eval (.tmp 126) = x126 at ha
            generalize a'.eval (.tmp 127) = x127 at ha
            generalize a'.eval (.tmp 128) = x128 at ha
            generalize a'.eval (.tmp 129) = x129 at ha
            generalize a'.eval (.tmp 130) = x130 at ha
            generalize a'.eval (.tmp 131) = x131 at ha
            generalize a'.eval (.tmp 132) = x132 at ha
            generalize a'.eval (.tmp 133) = x133 at ha
            generalize a'.eval (.tmp 134) = x134 at ha
            generalize a'.eval (.tmp 135) = x135 at ha
            generalize a'.eval (.tmp 136) = x136 at ha
            generalize a'.eval (.tmp 137) = x137 at ha
            subst ha
            have bw := BW.out.drew.trans (hb.mono BW.out.drew.size)
            have hc : ClAt w' g x' := Blk.below hc hb (Blk.lt hc)
            have hv : Blk w' gw 36 #[.int .u8 (va : Int), .int .u32 (vb : Int), .int .u8 (vk : Int), .string ⟨vs.toArray⟩, .string ⟨vt.toArray⟩, .string ⟨vu.toArray⟩, .int .u8 (vz : Int)] := Blk.below hv hb (Blk.lt hv)
            have ho : Blk w' go 47 #[.int .u8 (o0 : Int), .int .u8 (o1 : Int), .int .u8 (o2 : Int), .int .u64 (o3 : Int), .int .u8 (o4 : Int), .int .u64 (o5 : Int), .int .u64 (o6 : Int), .int .u8 (o7 : Int), .string ⟨o8.toArray⟩, .slice none 0 0, .slice none 0 0, .int .u8 (oa : Int), .int .u32 (ob : Int), .int .u8 (ok : Int), .string ⟨os.toArray⟩, .string ⟨ot.toArray⟩, .string ⟨ou.toArray⟩, .int .u8 (oz : Int), .int .u8 (oB : Int), .string ⟨oC.toArray⟩] := Blk.below ho hb (Blk.lt ho)
            have hi : Blk w' gi 47 #[.int .u8 (o0 : Int), .int .u8 (o1 : Int), .int .u8 (o2 : Int), .int .u64 (o3 : Int), .int .u8 (o4 : Int), .int .u64 (o5 : Int), .int .u64 (o6 : Int), .int .u8 (o7 : Int), .string ⟨o8.toArray⟩, .slice none 0 0, .slice none 0 0, .int .u8 (oa : Int), .int .u32 (ob : Int), .int .u8 (ok : Int), .string ⟨os.toArray⟩, .string ⟨ot.toArray⟩, .string ⟨ou.toArray⟩, .int .u8 (oz : Int), .int .u8 (oB : Int), .string ⟨oC.toArray⟩] := Blk.below hi hb (Blk.lt hi)
            have hj : Blk w' gj 43 #[.int .u8 0, .string ⟨#[]⟩] := Blk.below hj hb (Blk.lt hj)
            clear hb BW
            go_wp2_with fail
            go_meet
            exact ⟨seq, took, x', ⟨o0, o1, o2, o3, o4, o5, o6, o7, o8, .slice none 0 0, .slice none 0 0, ⟨oa, ob, ok, os, ot, ou, oz⟩, oB, oC⟩, true, rfl, rfl, rfl, hc, HI', by omega, hv, ho, bw, fun _ => ⟨HOUT.out, HW'.out⟩, fun _ _ => (HWS.out (by trivial)).trans HCM.out.symm⟩
        · as_aux_lemma =>
          obtain rfl : waited = true := HWD.out.trans hw
          rw [he] at HC
          have HC : Calls Try.prog 22 #[.pointer (some ⟨g, 0, none⟩), .agg #[.int .u8 (ls : Int), .int .u8 (ld : Int), .int .u8 (lk : Int), .int .u64 (lbn : Int), .int .u8 (lbr : Int), .int .u64 (lba : Int), .int .u64 (lsl : Int), .int .u8 (lno : Int), .string ⟨lv.toArray⟩, lvo, lit, .int .u8 (ya : Int), .int .u32 (yb : Int), .int .u8 (yk : Int), .string ⟨ys.toArray⟩, .string ⟨yt.toArray⟩, .string ⟨yu.toArray⟩, .int .u8 (yz : Int), .int .u8 (lco : Int), .string ⟨lte.toArray⟩]] w5 fun e w' => e = .returned (.tuple #[.agg #[.int .u8 0, .int .u8 0, .int .u8 0, .int .u64 0, .int .u8 0, .int .u64 0, .int .u64 0, .int .u8 0, .string ⟨#[]⟩, .slice none 0 0, .slice none 0 0, .int .u8 0, .int .u32 0, .int .u8 0, .string ⟨#[]⟩, .string ⟨#[]⟩, .string ⟨#[]⟩, .int .u8 0, .int .u8 0, .string ⟨#[]⟩], .bool false, .agg #[.int .u8 (lco : Int), .string ⟨lte.toArray⟩], .bool true]) ∧ ClGo w5 g x' w' := HC
          have HC := Lib.hid HC
          have HI' := Lib.hid hI'
          have HW' := Lib.hid hw'
          clear hI' hw'
          have hvb : yb = vb := by have h := HWS.out (by trivial); (try dsimp only at hsq); rw [hsq, ← h]
          (try dsimp only at hk2 hco)
          subst hk2
          have hco3 : ((lco : Int) == 3) = false := beq_eq_false_iff_ne.2 (by omega)
          clear hco hsq
          have HVB := Lib.hid hvb
          clear hvb
          clear hw
          clear he hF
          go_wp2_with (refine wpList_load (by rfl) (.tmp 74) (by rfl) (by rfl) hldL ?_)
          refine HC.out.mono ?_; rintro e w6 ⟨rfl, hc6, G6⟩
          clear hldL HC hc
          have hc := hc6
          clear hc6
          have hv : Blk w6 gw 36 #[.int .u8 (va : Int), .int .u32 (vb : Int), .int .u8 (vk : Int), .string ⟨vs.toArray⟩, .string ⟨vt.toArray⟩, .string ⟨vu.toArray⟩, .int .u8 (vz : Int)] := Blk.grown hv G6 (fun he => by have := Option.some.inj he; omega)
          have ho : Blk w6 go 47 #[.int .u8 0, .int .u8 0, .int .u8 0, .int .u64 0, .int .u8 0, .int .u64 0, .int .u64 0, .int .u8 0, .string ⟨#[]⟩, .slice none 0 0, .slice none 0 0, .int .u8 0, .int .u32 0, .int .u8 0, .string ⟨#[]⟩, .string ⟨#[]⟩, .string ⟨#[]⟩, .int .u8 0, .int .u8 0, .string ⟨#[]⟩] := Blk.grown ho G6 (fun he => by have := Option.some.inj he; omega)
          have bw := bw.grown G6 bw.size (fun k hk => by cases hk; omega)
          clear G6
          have lt3_0 := Blk.lt hc
          have lt3_1 := Blk.lt hv
          have lt3_2 := Blk.lt ho
          have lt3_w := bw.size
          have kl := (Blk.new w6 47 #[.int .u8 0, .int .u8 0, .int .u8 0, .int .u64 0, .int .u8 0, .int .u64 0, .int .u64 0, .int .u8 0, .string ⟨#[]⟩, .slice none 0 0, .slice none 0 0, .int .u8 0, .int .u32 0, .int .u8 0, .string ⟨#[]⟩, .string ⟨#[]⟩, .string ⟨#[]⟩, .int .u8 0, .int .u8 0, .string ⟨#[]⟩]).alloc (.cells #[.int .u8 0, .string ⟨#[]⟩] 43)
          have kr := Blk.new (w6.alloc (.cells #[.int .u8 0, .int .u8 0, .int .u8 0, .int .u64 0, .int .u8 0, .int .u64 0, .int .u64 0, .int .u8 0, .string ⟨#[]⟩, .slice none 0 0, .slice none 0 0, .int .u8 0, .int .u32 0, .int .u8 0, .string ⟨#[]⟩, .string ⟨#[]⟩, .string ⟨#[]⟩, .int .u8 0, .int .u8 0, .string ⟨#[]⟩] 47)) 43 #[.int .u8 0, .string ⟨#[]⟩]
          have es : (w6.alloc (.cells #[.int .u8 0, .int .u8 0, .int .u8 0, .int .u64 0, .int .u8 0, .int .u64 0, .int .u64 0, .int .u8 0, .string ⟨#[]⟩, .slice none 0 0, .slice none 0 0, .int .u8 0, .int .u32 0, .int .u8 0, .string ⟨#[]⟩, .string ⟨#[]⟩, .string ⟨#[]⟩, .int .u8 0, .int .u8 0, .string ⟨#[]⟩] 47)).heap.size = w6.heap.size + 1 := by simp
          rw [es] at kr
          obtain ⟨gi, hgi⟩ : ∃ g, g = w6.heap.size := ⟨_, rfl⟩
          obtain ⟨gj, hgj⟩ : ∃ g, g = w6.heap.size + 1 := ⟨_, rfl⟩
          obtain ⟨w7, hstA, w8, hstB, n_hc, n_hv, n_ho, hi, hj, n_bw⟩ : ∃ w7, (Instr.storeAt 47 (.pointer (some ⟨w6.heap.size, 0, none⟩)) (.agg #[.int .u8 0, .int .u8 0, .int .u8 0, .int .u64 0, .int .u8 0, .int .u64 0, .int .u64 0, .int .u8 0, .string ⟨#[]⟩, .slice none 0 0, .slice none 0 0, .int .u8 0, .int .u32 0, .int .u8 0, .string ⟨#[]⟩, .string ⟨#[]⟩, .string ⟨#[]⟩, .int .u8 0, .int .u8 0, .string ⟨#[]⟩])).run Try.prog ((w6.alloc (.cells #[.int .u8 0, .int .u8 0, .int .u8 0, .int .u64 0, .int .u8 0, .int .u64 0, .int .u64 0, .int .u8 0, .string ⟨#[]⟩, .slice none 0 0, .slice none 0 0, .int .u8 0, .int .u32 0, .int .u8 0, .string ⟨#[]⟩, .string ⟨#[]⟩, .string ⟨#[]⟩, .int .u8 0, .int .u8 0, .string ⟨#[]⟩] 47)).alloc (.cells #[.int .u8 0, .string ⟨#[]⟩] 43)) = .ok () w7 ∧ ∃ w8, (Instr.storeAt 43 (.pointer (some ⟨w6.heap.size + 1, 0, none⟩)) (.agg #[.int .u8 (lco : Int), .string ⟨lte.toArray⟩])).run Try.prog w7 = .ok () w8 ∧ ClAt w8 g x' ∧ Blk w8 gw 36 #[.int .u8 (va : Int), .int .u32 (vb : Int), .int .u8 (vk : Int), .string ⟨vs.toArray⟩, .string ⟨vt.toArray⟩, .string ⟨vu.toArray⟩, .int .u8 (vz : Int)] ∧ Blk w8 go 47 #[.int .u8 0, .int .u8 0, .int .u8 0, .int .u64 0, .int .u8 0, .int .u64 0, .int .u64 0, .int .u8 0, .string ⟨#[]⟩, .slice none 0 0, .slice none 0 0, .int .u8 0, .int .u32 0, .int .u8 0, .string ⟨#[]⟩, .string ⟨#[]⟩, .string ⟨#[]⟩, .int .u8 0, .int .u8 0, .string ⟨#[]⟩] ∧ Blk w8 gi 47 #[.int .u8 0, .int .u8 0, .int .u8 0, .int .u64 0, .int .u8 0, .int .u64 0, .int .u64 0, .int .u8 0, .string ⟨#[]⟩, .slice none 0 0, .slice none 0 0, .int .u8 0, .int .u32 0, .int .u8 0, .string ⟨#[]⟩, .string ⟨#[]⟩, .string ⟨#[]⟩, .int .u8 0, .int .u8 0, .string ⟨#[]⟩] ∧ Blk w8 gj 43 #[.int .u8 (lco : Int), .string ⟨lte.toArray⟩] ∧ Below w.heap.size w w8 :=
            ⟨_, blk_store kl (by rfl) size_lt (by rfl), _, blk_store (kr.setRowFar (by omega)) (by rfl) size_reply (by rfl), Blk.setRowFar (Blk.setRowFar (Blk.alloc (Blk.alloc hc _) _) (by omega)) (by omega), Blk.setRowFar (Blk.setRowFar (Blk.alloc (Blk.alloc hv _) _) (by omega)) (by omega), Blk.setRowFar (Blk.setRowFar (Blk.alloc (Blk.alloc ho _) _) (by omega)) (by omega), (by rw [hgi]; exact kl.setRow.setRowFar (by omega)), (by rw [hgj]; exact (kr.setRowFar (by omega)).setRow), below_setRow (below_setRow ((bw.alloc bw.size _).alloc (by rw [es]; omega) _) (by omega)) (by omega)⟩
          have ne_gi_g : gi ≠ g := by omega
          have ne_gi_gw : gi ≠ gw := by omega
          have ne_gi_go : gi ≠ go := by omega
          have le_gi : w.heap.size ≤ gi := by omega
          have ne_gj_g : gj ≠ g := by omega
          have ne_gj_gw : gj ≠ gw := by omega
          have ne_gj_go : gj ≠ go := by omega
          have ne_gj_gi : gj ≠ gi := by omega
          have le_gj : w.heap.size ≤ gj := by omega
          clear kl kr es bw hc hv ho lt3_0 lt3_1 lt3_2 lt3_w
          have hc := n_hc
          have hv := n_hv
          have ho := n_ho
          have bw := n_bw
          clear n_bw n_hc n_hv n_ho
          go_upto_region 15 with (first | refine wpList_store (by rfl) (.tmp 20) (.tmp 77) (by rfl) (by rfl) (by rfl) hstA ?_ | refine wpList_store (by rfl) (.tmp 22) (.tmp 79) (by rfl) (by rfl) (by rfl) hstB ?_)
          rw [← hgj]
          clear hstB hgj
          rw [← hgi]
          clear hstA hgi
          have hld16 := blk_load (P := Try.prog) (ty := 47) hi Try.underlying47 rfl size_lt
          obtain ⟨w9, hst, n_hc, n_hv, n_hi, n_hj, n_ho, n_bw⟩ : ∃ w9, (Instr.storeAt 47 (.pointer (some ⟨go, 0, none⟩)) (.agg #[.int .u8 0, .int .u8 0, .int .u8 0, .int .u64 0, .int .u8 0, .int .u64 0, .int .u64 0, .int .u8 0, .string ⟨#[]⟩, .slice none 0 0, .slice none 0 0, .int .u8 0, .int .u32 0, .int .u8 0, .string ⟨#[]⟩, .string ⟨#[]⟩, .string ⟨#[]⟩, .int .u8 0, .int .u8 0, .string ⟨#[]⟩])).run Try.prog w8 = .ok () w9 ∧ ClAt w9 g x' ∧ Blk w9 gw 36 #[.int .u8 (va : Int), .int .u32 (vb : Int), .int .u8 (vk : Int), .string ⟨vs.toArray⟩, .string ⟨vt.toArray⟩, .string ⟨vu.toArray⟩, .int .u8 (vz : Int)] ∧ Blk w9 gi 47 #[.int .u8 0, .int .u8 0, .int .u8 0, .int .u64 0, .int .u8 0, .int .u64 0, .int .u64 0, .int .u8 0, .string ⟨#[]⟩, .slice none 0 0, .slice none 0 0, .int .u8 0, .int .u32 0, .int .u8 0, .string ⟨#[]⟩, .string ⟨#[]⟩, .string ⟨#[]⟩, .int .u8 0, .int .u8 0, .string ⟨#[]⟩] ∧ Blk w9 gj 43 #[.int .u8 (lco : Int), .string ⟨lte.toArray⟩] ∧ Blk w9 go 47 #[.int .u8 0, .int .u8 0, .int .u8 0, .int .u64 0, .int .u8 0, .int .u64 0, .int .u64 0, .int .u8 0, .string ⟨#[]⟩, .slice none 0 0, .slice none 0 0, .int .u8 0, .int .u32 0, .int .u8 0, .string ⟨#[]⟩, .string ⟨#[]⟩, .string ⟨#[]⟩, .int .u8 0, .int .u8 0, .string ⟨#[]⟩] ∧ Below w.heap.size w w9 :=
            ⟨_, blk_store ho (by rfl) size_lt (by rfl), Blk.setRowFar hc (by omega), Blk.setRowFar hv (by omega), Blk.setRowFar hi (by omega), Blk.setRowFar hj (by omega), Blk.setRow ho, below_setRow bw (by omega)⟩
          clear bw hc hv ho hi hj
          have hc := n_hc
          have hv := n_hv
          have ho := n_ho
          have hi := n_hi
          have hj := n_hj
          have bw := n_bw
          clear n_bw n_hc n_hv n_ho n_hi n_hj
          go_upto_region 17 with (first | refine wpList_load (by rfl) (.tmp 20) (by rfl) (by rfl) hld16 ?_ | refine wpList_store (by rfl) (.tmp 14) (.tmp 81) (by rfl) (by rfl) (by rfl) hst ?_)
          have rL9 : ∀ W, Below w9.drew.heap.size w9.drew W → W.rangeAt (ad.add (k * 28)).block ((ad.add (k * 28)).off + 8) _ := fun W hb => range_below rL (bw.drew.trans (hb.mono bw.drew.size)) hb0
          have BW := Lib.hid bw
          have hc := Blk.drew hc
          have hv := Blk.drew hv
          have ho := Blk.drew ho
          have hi := Blk.drew hi
          have hj := Blk.drew hj
          clear bw
          refine region_inv2 (by kernel_rfl) [] [(83, .bool false), (84, .bool false), (85, undef), (86, .bool false), (87, .bool false), (88, .bool false), (89, .bool false), (90, .bool true), (91, .bool true), (92, .bool true), (93, .bool true), (94, .bool false), (95, .bool false), (96, .bool false), (97, .bool false), (98, .bool true), (99, .bool true), (100, .pointer (some ⟨gj, 0, none⟩)), (101, .int .u8 (lco : Int)), (102, .bool false), (103, .bool false), (104, .slice (some ad) ln cl), (105, .int .i64 (k : Int)), (106, .pointer (some (ad.add (k * 28)))), (107, .pointer (some { block := (ad.add (k * 28)).block, off := (ad.add (k * 28)).off + 8 })), (108, .pointer (some { block := (ad.add (k * 28)).block, off := (ad.add (k * 28)).off + 10 })), (109, .pointer (some { block := (ad.add (k * 28)).block, off := (ad.add (k * 28)).off + 10 })), (110, .int .u8 2), (111, .bool false), (112, .bool false), (113, .bool false), (114, .slice (some ad) ln cl), (115, .int .i64 (k : Int)), (116, .pointer (some (ad.add (k * 28)))), (117, .pointer (some { block := (ad.add (k * 28)).block, off := (ad.add (k * 28)).off + 8 })), (118, .pointer (some { block := (ad.add (k * 28)).block, off := (ad.add (k * 28)).off + 10 })), (119, .pointer (some { block := (ad.add (k * 28)).block, off := (ad.add (k * 28)).off + 19 })), (120, .pointer (some { block := (ad.add (k * 28)).block, off := (ad.add (k * 28)).off + 20 })), (121, .int .u32 (yb : Int)), (122, .pointer (some ⟨gw, 1, none⟩)), (123, .int .u32 (vb : Int)), (124, .bool false), (125, .bool false), (126, .bool false), (127, .slice (some ad) ln cl), (128, .int .i64 (k : Int)), (129, .pointer (some (ad.add (k * 28)))), (130, .pointer (some { block := (ad.add (k * 28)).block, off := (ad.add (k * 28)).off + 8 })), (131, .pointer (some { block := (ad.add (k * 28)).block, off := (ad.add (k * 28)).off + 10 })), (132, .pointer (some { block := (ad.add (k * 28)).block, off := (ad.add (k * 28)).off + 26 })), (133, .agg #[.int .u8 (lco : Int), .string ⟨lte.toArray⟩]), (134, .agg #[.int .u8 (lco : Int), .string ⟨lte.toArray⟩]), (135, .bool false), (136, .bool false), (137, .bool false), (138, .bool false)] (by kernel_rfl) (by kernel_rfl) rfl (by kernel_rfl) ?_ ?_ ?_
          · intro q hq; cases hq
          · refine And.intro ?_ ?_
            · intro d hd ρ W hcs bw hn hg
              cases hd
              have e21 : ρ (.tmp 21) = .bool false := hn 21 (by decide)
              clear hn hg
              refine .inl ⟨trivial, ?_⟩
              refine .inl ⟨_, W, rfl, e21, Below.refl _ _⟩
            refine And.intro ?_ ?_
            · intro d hd ρ W hcs bw hn hg
              cases hd
              have e83 : ρ (.tmp 83) = .bool false := hn 83 (by decide)
              clear hn hg
              refine .inl ⟨trivial, ?_⟩
              refine .inl ⟨_, W, rfl, e83, Below.refl _ _⟩
            refine And.intro ?_ ?_
            · intro d hd ρ W hcs bw hn hg
              cases hd
              have eg : ρ (.tmp 84) = .bool false := hg _ _ _ _ rfl rfl rfl
              exact .inr ⟨⟨_, _, _, rfl, rfl, eg, nofun⟩, rfl⟩
            refine And.intro ?_ ?_
            · intro d hd ρ W hcs bw hn hg
              cases hd
              have e84 : ρ (.tmp 84) = .bool false := hn 84 (by decide)
              have e85 : ρ (.tmp 85) = undef := hn 85 (by decide)
              clear hn hg
              refine .inl ⟨trivial, ?_⟩
              have hc1 := hcs.1
              refine .inl ⟨.bool false, W, ?_, rfl, Below.refl _ _⟩
              go_simp
            refine And.intro ?_ ?_
            · intro d hd ρ W hcs bw hn hg
              cases hd
              have e86 : ρ (.tmp 86) = .bool false := hn 86 (by decide)
              clear hn hg
              refine .inl ⟨trivial, ?_⟩
              refine .inl ⟨_, W, rfl, e86, Below.refl _ _⟩
            refine And.intro ?_ ?_
            · intro d hd ρ W hcs bw hn hg
              cases hd
              have eg : ρ (.tmp 87) = .bool false := hg _ _ _ _ rfl rfl rfl
              have e21 : ρ (.tmp 21) = .bool false := hn 21 (by decide)
              clear hn hg
              refine .inl ⟨⟨_, _, rfl, rfl, eg⟩, ?_⟩
              refine .inl ⟨_, W, rfl, e21, Below.refl _ _⟩
            refine And.intro ?_ ?_
            · intro d hd ρ W hcs bw hn hg
              cases hd
              have eg : ρ (.tmp 87) = .bool false := hg _ _ _ _ rfl rfl rfl
              have e88 : ρ (.tmp 88) = .bool false := hn 88 (by decide)
              clear hn hg
              refine .inl ⟨⟨_, _, rfl, rfl, eg⟩, ?_⟩
              refine .inl ⟨_, W, rfl, e88, Below.refl _ _⟩
            refine And.intro ?_ ?_
            · intro d hd ρ W hcs bw hn hg
              cases hd
              have eg : ρ (.tmp 89) = .bool false := hg _ _ _ _ rfl rfl rfl
              have e23 : ρ (.tmp 23) = .bool true := hn 23 (by decide)
              clear hn hg
              refine .inl ⟨⟨_, _, rfl, rfl, eg⟩, ?_⟩
              refine .inl ⟨_, W, rfl, e23, Below.refl _ _⟩
            refine And.intro ?_ ?_
            · intro d hd ρ W hcs bw hn hg
              cases hd
              have eg : ρ (.tmp 87) = .bool false := hg _ _ _ _ rfl rfl rfl
              have e89 : ρ (.tmp 89) = .bool false := hn 89 (by decide)
              have e90 : ρ (.tmp 90) = .bool true := hn 90 (by decide)
              clear hn hg
              refine .inl ⟨⟨_, _, rfl, rfl, eg⟩, ?_⟩
              have hc1 := hcs.1
              refine .inl ⟨.bool true, W, ?_, rfl, Below.refl _ _⟩
              go_simp
            refine And.intro ?_ ?_
            · intro d hd ρ W hcs bw hn hg
              cases hd
              have eg : ρ (.tmp 87) = .bool false := hg _ _ _ _ rfl rfl rfl
              have e91 : ρ (.tmp 91) = .bool true := hn 91 (by decide)
              clear hn hg
              refine .inl ⟨⟨_, _, rfl, rfl, eg⟩, ?_⟩
              refine .inl ⟨_, W, rfl, e91, Below.refl _ _⟩
            refine And.intro ?_ ?_
            · intro d hd ρ W hcs bw hn hg
              cases hd
              have eg : ρ (.tmp 92) = .bool true := hg _ _ _ _ rfl rfl rfl
              have e13 : ρ (.tmp 13) = .bool true := hn 13 (by decide)
              clear hn hg
              refine .inl ⟨⟨_, _, rfl, rfl, eg⟩, ?_⟩
              refine .inl ⟨_, W, rfl, e13, Below.refl _ _⟩
            refine And.intro ?_ ?_
            · intro d hd ρ W hcs bw hn hg
              cases hd
              have eg : ρ (.tmp 92) = .bool true := hg _ _ _ _ rfl rfl rfl
              have e93 : ρ (.tmp 93) = .bool true := hn 93 (by decide)
              clear hn hg
              refine .inl ⟨⟨_, _, rfl, rfl, eg⟩, ?_⟩
              refine .inl ⟨.bool false, W, ?_, rfl, Below.refl _ _⟩
              go_simp
            refine And.intro ?_ ?_
            · intro d hd ρ W hcs bw hn hg
              cases hd
              have eg : ρ (.tmp 87) = .bool false := hg _ _ _ _ rfl rfl rfl
              have e92 : ρ (.tmp 92) = .bool true := hn 92 (by decide)
              have e94 : ρ (.tmp 94) = .bool false := hn 94 (by decide)
              clear hn hg
              refine .inl ⟨⟨_, _, rfl, rfl, eg⟩, ?_⟩
              have hc1 := hcs.1
              refine .inl ⟨.bool false, W, ?_, rfl, Below.refl _ _⟩
              go_simp
            refine And.intro ?_ ?_
            · intro d hd ρ W hcs bw hn hg
              cases hd
              have e87 : ρ (.tmp 87) = .bool false := hn 87 (by decide)
              have e95 : ρ (.tmp 95) = .bool false := hn 95 (by decide)
              clear hn hg
              refine .inl ⟨trivial, ?_⟩
              have hc1 := hcs.1
              refine .inl ⟨.bool false, W, ?_, rfl, Below.refl _ _⟩
              go_simp
            refine And.intro ?_ ?_
            · intro d hd ρ W hcs bw hn hg
              cases hd
              have e96 : ρ (.tmp 96) = .bool false := hn 96 (by decide)
              clear hn hg
              refine .inl ⟨trivial, ?_⟩
              refine .inl ⟨_, W, rfl, e96, Below.refl _ _⟩
            refine And.intro ?_ ?_
            · intro d hd ρ W hcs bw hn hg
              cases hd
              have eg : ρ (.tmp 97) = .bool false := hg _ _ _ _ rfl rfl rfl
              have e23 : ρ (.tmp 23) = .bool true := hn 23 (by decide)
              clear hn hg
              refine .inl ⟨⟨_, _, rfl, rfl, eg⟩, ?_⟩
              refine .inl ⟨_, W, rfl, e23, Below.refl _ _⟩
            refine And.intro ?_ ?_
            · intro d hd ρ W hcs bw hn hg
              cases hd
              have eg : ρ (.tmp 97) = .bool false := hg _ _ _ _ rfl rfl rfl
              have e98 : ρ (.tmp 98) = .bool true := hn 98 (by decide)
              clear hn hg
              refine .inl ⟨⟨_, _, rfl, rfl, eg⟩, ?_⟩
              refine .inl ⟨_, W, rfl, e98, Below.refl _ _⟩
            refine And.intro ?_ ?_
            · intro d hd ρ W hcs bw hn hg
              cases hd
              have eg : ρ (.tmp 99) = .bool true := hg _ _ _ _ rfl rfl rfl
              have e22 : ρ (.tmp 22) = .pointer (some ⟨gj, 0, none⟩) := hn 22 (by decide)
              clear hn hg
              refine .inl ⟨⟨_, _, rfl, rfl, eg⟩, ?_⟩
              refine .inl ⟨.pointer (some ⟨gj, 0, none⟩), W, ?_, rfl, Below.refl _ _⟩
              go_simp
            refine And.intro ?_ ?_
            · intro d hd ρ W hcs bw hn hg
              cases hd
              have eg : ρ (.tmp 99) = .bool true := hg _ _ _ _ rfl rfl rfl
              have e100 : ρ (.tmp 100) = .pointer (some ⟨gj, 0, none⟩) := hn 100 (by decide)
              clear hn hg
              refine .inl ⟨⟨_, _, rfl, rfl, eg⟩, ?_⟩
              have z0 : W.cell? ⟨gj, 0, none⟩ = some (.int .u8 (lco : Int)) := (Blk.below hj bw (Blk.lt hj)).cell 0
              refine .inl ⟨.int .u8 (lco : Int), W, ?_, rfl, Below.refl _ _⟩
              go_simp
            refine And.intro ?_ ?_
            · intro d hd ρ W hcs bw hn hg
              cases hd
              have eg : ρ (.tmp 99) = .bool true := hg _ _ _ _ rfl rfl rfl
              have e101 : ρ (.tmp 101) = .int .u8 (lco : Int) := hn 101 (by decide)
              clear hn hg
              refine .inl ⟨⟨_, _, rfl, rfl, eg⟩, ?_⟩
              have hc1 := hcs.1
              refine .inl ⟨.bool false, W, ?_, rfl, Below.refl _ _⟩
              go_simp
            refine And.intro ?_ ?_
            · intro d hd ρ W hcs bw hn hg
              cases hd
              have eg : ρ (.tmp 99) = .bool true := hg _ _ _ _ rfl rfl rfl
              have e102 : ρ (.tmp 102) = .bool false := hn 102 (by decide)
              clear hn hg
              refine .inl ⟨⟨_, _, rfl, rfl, eg⟩, ?_⟩
              refine .inl ⟨_, W, rfl, e102, Below.refl _ _⟩
            refine And.intro ?_ ?_
            · intro d hd ρ W hcs bw hn hg
              cases hd
              have eg : ρ (.tmp 103) = .bool false := hg _ _ _ _ rfl rfl rfl
              have e2 : ρ (.tmp 2) = .slice (some ad) ln cl := hn 2 (by decide)
              clear hn hg
              refine .inl ⟨⟨_, _, rfl, rfl, eg⟩, ?_⟩
              refine .inl ⟨_, W, rfl, e2, Below.refl _ _⟩
            refine And.intro ?_ ?_
            · intro d hd ρ W hcs bw hn hg
              cases hd
              have eg : ρ (.tmp 103) = .bool false := hg _ _ _ _ rfl rfl rfl
              have e11 : ρ (.tmp 11) = .int .i64 (k : Int) := hn 11 (by decide)
              clear hn hg
              refine .inl ⟨⟨_, _, rfl, rfl, eg⟩, ?_⟩
              refine .inl ⟨_, W, rfl, e11, Below.refl _ _⟩
            refine And.intro ?_ ?_
            · intro d hd ρ W hcs bw hn hg
              cases hd
              have eg : ρ (.tmp 103) = .bool false := hg _ _ _ _ rfl rfl rfl
              have e104 : ρ (.tmp 104) = .slice (some ad) ln cl := hn 104 (by decide)
              have e105 : ρ (.tmp 105) = .int .i64 (k : Int) := hn 105 (by decide)
              clear hn hg
              refine .inl ⟨⟨_, _, rfl, rfl, eg⟩, ?_⟩
              refine .inl ⟨.pointer (some (ad.add (k * 28))), W, ?_, rfl, Below.refl _ _⟩
              go_simp
            refine And.intro ?_ ?_
            · intro d hd ρ W hcs bw hn hg
              cases hd
              have eg : ρ (.tmp 103) = .bool false := hg _ _ _ _ rfl rfl rfl
              have e106 : ρ (.tmp 106) = .pointer (some (ad.add (k * 28))) := hn 106 (by decide)
              clear hn hg
              refine .inl ⟨⟨_, _, rfl, rfl, eg⟩, ?_⟩
              refine .inl ⟨.pointer (some { block := (ad.add (k * 28)).block, off := (ad.add (k * 28)).off + 8 }), W, ?_, rfl, Below.refl _ _⟩
              go_simp
            refine And.intro ?_ ?_
            · intro d hd ρ W hcs bw hn hg
              cases hd
              have eg : ρ (.tmp 103) = .bool false := hg _ _ _ _ rfl rfl rfl
              have e107 : ρ (.tmp 107) = .pointer (some { block := (ad.add (k * 28)).block, off := (ad.add (k * 28)).off + 8 }) := hn 107 (by decide)
              clear hn hg
              refine .inl ⟨⟨_, _, rfl, rfl, eg⟩, ?_⟩
              refine .inl ⟨.pointer (some { block := (ad.add (k * 28)).block, off := (ad.add (k * 28)).off + 10 }), W, ?_, rfl, Below.refl _ _⟩
              go_simp
            refine And.intro ?_ ?_
            · intro d hd ρ W hcs bw hn hg
              cases hd
              have eg : ρ (.tmp 103) = .bool false := hg _ _ _ _ rfl rfl rfl
              have e108 : ρ (.tmp 108) = .pointer (some { block := (ad.add (k * 28)).block, off := (ad.add (k * 28)).off + 10 }) := hn 108 (by decide)
              clear hn hg
              refine .inl ⟨⟨_, _, rfl, rfl, eg⟩, ?_⟩
              refine .inl ⟨.pointer (some { block := (ad.add (k * 28)).block, off := (ad.add (k * 28)).off + 10 }), W, ?_, rfl, Below.refl _ _⟩
              go_simp
            refine And.intro ?_ ?_
            · intro d hd ρ W hcs bw hn hg
              cases hd
              have eg : ρ (.tmp 103) = .bool false := hg _ _ _ _ rfl rfl rfl
              have e109 : ρ (.tmp 109) = .pointer (some { block := (ad.add (k * 28)).block, off := (ad.add (k * 28)).off + 10 }) := hn 109 (by decide)
              clear hn hg
              refine .inl ⟨⟨_, _, rfl, rfl, eg⟩, ?_⟩
              have z0 : W.cell? { block := (ad.add (k * 28)).block, off := (ad.add (k * 28)).off + 10 } = some (.int .u8 2) := rL9 W bw 2 _ rfl
              refine .inl ⟨.int .u8 2, W, ?_, rfl, Below.refl _ _⟩
              go_simp
            refine And.intro ?_ ?_
            · intro d hd ρ W hcs bw hn hg
              cases hd
              have eg : ρ (.tmp 103) = .bool false := hg _ _ _ _ rfl rfl rfl
              have e110 : ρ (.tmp 110) = .int .u8 2 := hn 110 (by decide)
              clear hn hg
              refine .inl ⟨⟨_, _, rfl, rfl, eg⟩, ?_⟩
              have hc1 := hcs.1
              refine .inl ⟨.bool false, W, ?_, rfl, Below.refl _ _⟩
              go_simp
            refine And.intro ?_ ?_
            · intro d hd ρ W hcs bw hn hg
              cases hd
              have eg : ρ (.tmp 99) = .bool true := hg _ _ _ _ rfl rfl rfl
              have e103 : ρ (.tmp 103) = .bool false := hn 103 (by decide)
              have e111 : ρ (.tmp 111) = .bool false := hn 111 (by decide)
              clear hn hg
              refine .inl ⟨⟨_, _, rfl, rfl, eg⟩, ?_⟩
              have hc1 := hcs.1
              refine .inl ⟨.bool false, W, ?_, rfl, Below.refl _ _⟩
              go_simp
            refine And.intro ?_ ?_
            · intro d hd ρ W hcs bw hn hg
              cases hd
              have eg : ρ (.tmp 99) = .bool true := hg _ _ _ _ rfl rfl rfl
              have e112 : ρ (.tmp 112) = .bool false := hn 112 (by decide)
              clear hn hg
              refine .inl ⟨⟨_, _, rfl, rfl, eg⟩, ?_⟩
              refine .inl ⟨_, W, rfl, e112, Below.refl _ _⟩
            refine And.intro ?_ ?_
            · intro d hd ρ W hcs bw hn hg
              cases hd
              have eg : ρ (.tmp 113) = .bool false := hg _ _ _ _ rfl rfl rfl
              have e2 : ρ (.tmp 2) = .slice (some ad) ln cl := hn 2 (by decide)
              clear hn hg
              refine .inl ⟨⟨_, _, rfl, rfl, eg⟩, ?_⟩
              refine .inl ⟨_, W, rfl, e2, Below.refl _ _⟩
            refine And.intro ?_ ?_
            · intro d hd ρ W hcs bw hn hg
              cases hd
              have eg : ρ (.tmp 113) = .bool false := hg _ _ _ _ rfl rfl rfl
              have e11 : ρ (.tmp 11) = .int .i64 (k : Int) := hn 11 (by decide)
              clear hn hg
              refine .inl ⟨⟨_, _, rfl, rfl, eg⟩, ?_⟩
              refine .inl ⟨_, W, rfl, e11, Below.refl _ _⟩
            refine And.intro ?_ ?_
            · intro d hd ρ W hcs bw hn hg
              cases hd
              have eg : ρ (.tmp 113) = .bool false := hg _ _ _ _ rfl rfl rfl
              have e114 : ρ (.tmp 114) = .slice (some ad) ln cl := hn 114 (by decide)
              have e115 : ρ (.tmp 115) = .int .i64 (k : Int) := hn 115 (by decide)
              clear hn hg
              refine .inl ⟨⟨_, _, rfl, rfl, eg⟩, ?_⟩
              refine .inl ⟨.pointer (some (ad.add (k * 28))), W, ?_, rfl, Below.refl _ _⟩
              go_simp
            refine And.intro ?_ ?_
            · intro d hd ρ W hcs bw hn hg
              cases hd
              have eg : ρ (.tmp 113) = .bool false := hg _ _ _ _ rfl rfl rfl
              have e116 : ρ (.tmp 116) = .pointer (some (ad.add (k * 28))) := hn 116 (by decide)
              clear hn hg
              refine .inl ⟨⟨_, _, rfl, rfl, eg⟩, ?_⟩
              refine .inl ⟨.pointer (some { block := (ad.add (k * 28)).block, off := (ad.add (k * 28)).off + 8 }), W, ?_, rfl, Below.refl _ _⟩
              go_simp
            refine And.intro ?_ ?_
            · intro d hd ρ W hcs bw hn hg
              cases hd
              have eg : ρ (.tmp 113) = .bool false := hg _ _ _ _ rfl rfl rfl
              have e117 : ρ (.tmp 117) = .pointer (some { block := (ad.add (k * 28)).block, off := (ad.add (k * 28)).off + 8 }) := hn 117 (by decide)
              clear hn hg
              refine .inl ⟨⟨_, _, rfl, rfl, eg⟩, ?_⟩
              refine .inl ⟨.pointer (some { block := (ad.add (k * 28)).block, off := (ad.add (k * 28)).off + 10 }), W, ?_, rfl, Below.refl _ _⟩
              go_simp
            refine And.intro ?_ ?_
            · intro d hd ρ W hcs bw hn hg
              cases hd
              have eg : ρ (.tmp 113) = .bool false := hg _ _ _ _ rfl rfl rfl
              have e118 : ρ (.tmp 118) = .pointer (some { block := (ad.add (k * 28)).block, off := (ad.add (k * 28)).off + 10 }) := hn 118 (by decide)
              clear hn hg
              refine .inl ⟨⟨_, _, rfl, rfl, eg⟩, ?_⟩
              refine .inl ⟨.pointer (some { block := (ad.add (k * 28)).block, off := (ad.add (k * 28)).off + 19 }), W, ?_, rfl, Below.refl _ _⟩
              go_simp
            refine And.intro ?_ ?_
            · intro d hd ρ W hcs bw hn hg
              cases hd
              have eg : ρ (.tmp 113) = .bool false := hg _ _ _ _ rfl rfl rfl
              have e119 : ρ (.tmp 119) = .pointer (some { block := (ad.add (k * 28)).block, off := (ad.add (k * 28)).off + 19 }) := hn 119 (by decide)
              clear hn hg
              refine .inl ⟨⟨_, _, rfl, rfl, eg⟩, ?_⟩
              refine .inl ⟨.pointer (some { block := (ad.add (k * 28)).block, off := (ad.add (k * 28)).off + 20 }), W, ?_, rfl, Below.refl _ _⟩
              go_simp
            refine And.intro ?_ ?_
            · intro d hd ρ W hcs bw hn hg
              cases hd
              have eg : ρ (.tmp 113) = .bool false := hg _ _ _ _ rfl rfl rfl
              have e120 : ρ (.tmp 120) = .pointer (some { block := (ad.add (k * 28)).block, off := (ad.add (k * 28)).off + 20 }) := hn 120 (by decide)
              clear hn hg
              refine .inl ⟨⟨_, _, rfl, rfl, eg⟩, ?_⟩
              have z0 : W.cell? { block := (ad.add (k * 28)).block, off := (ad.add (k * 28)).off + 20 } = some (.int .u32 (yb : Int)) := rL9 W bw 12 _ rfl
              refine .inl ⟨.int .u32 (yb : Int), W, ?_, rfl, Below.refl _ _⟩
              go_simp
            refine And.intro ?_ ?_
            · intro d hd ρ W hcs bw hn hg
              cases hd
              have eg : ρ (.tmp 113) = .bool false := hg _ _ _ _ rfl rfl rfl
              have e12 : ρ (.tmp 12) = .pointer (some ⟨gw, 0, none⟩) := hn 12 (by decide)
              clear hn hg
              refine .inl ⟨⟨_, _, rfl, rfl, eg⟩, ?_⟩
              refine .inl ⟨.pointer (some ⟨gw, 1, none⟩), W, ?_, rfl, Below.refl _ _⟩
              go_simp
            refine And.intro ?_ ?_
            · intro d hd ρ W hcs bw hn hg
              cases hd
              have eg : ρ (.tmp 113) = .bool false := hg _ _ _ _ rfl rfl rfl
              have e122 : ρ (.tmp 122) = .pointer (some ⟨gw, 1, none⟩) := hn 122 (by decide)
              clear hn hg
              refine .inl ⟨⟨_, _, rfl, rfl, eg⟩, ?_⟩
              have z0 : W.cell? ⟨gw, 1, none⟩ = some (.int .u32 (vb : Int)) := (Blk.below hv bw (Blk.lt hv)).cell 1
              refine .inl ⟨.int .u32 (vb : Int), W, ?_, rfl, Below.refl _ _⟩
              go_simp
            refine And.intro ?_ ?_
            · intro d hd ρ W hcs bw hn hg
              cases hd
              have eg : ρ (.tmp 113) = .bool false := hg _ _ _ _ rfl rfl rfl
              have e121 : ρ (.tmp 121) = .int .u32 (yb : Int) := hn 121 (by decide)
              have e123 : ρ (.tmp 123) = .int .u32 (vb : Int) := hn 123 (by decide)
              clear hn hg
              refine .inl ⟨⟨_, _, rfl, rfl, eg⟩, ?_⟩
              have zz := HVB.out
              subst zz
              refine .inl ⟨.bool false, W, ?_, rfl, Below.refl _ _⟩
              go_simp
            refine And.intro ?_ ?_
            · intro d hd ρ W hcs bw hn hg
              cases hd
              have eg : ρ (.tmp 99) = .bool true := hg _ _ _ _ rfl rfl rfl
              have e113 : ρ (.tmp 113) = .bool false := hn 113 (by decide)
              have e124 : ρ (.tmp 124) = .bool false := hn 124 (by decide)
              clear hn hg
              refine .inl ⟨⟨_, _, rfl, rfl, eg⟩, ?_⟩
              have hc1 := hcs.1
              refine .inl ⟨.bool false, W, ?_, rfl, Below.refl _ _⟩
              go_simp
            refine And.intro ?_ ?_
            · intro d hd ρ W hcs bw hn hg
              cases hd
              have eg : ρ (.tmp 99) = .bool true := hg _ _ _ _ rfl rfl rfl
              have e125 : ρ (.tmp 125) = .bool false := hn 125 (by decide)
              clear hn hg
              refine .inl ⟨⟨_, _, rfl, rfl, eg⟩, ?_⟩
              refine .inl ⟨_, W, rfl, e125, Below.refl _ _⟩
            refine And.intro ?_ ?_
            · intro d hd ρ W hcs bw hn hg
              cases hd
              have eg : ρ (.tmp 126) = .bool false := hg _ _ _ _ rfl rfl rfl
              have e2 : ρ (.tmp 2) = .slice (some ad) ln cl := hn 2 (by decide)
              clear hn hg
              refine .inl ⟨⟨_, _, rfl, rfl, eg⟩, ?_⟩
              refine .inl ⟨_, W, rfl, e2, Below.refl _ _⟩
            refine And.intro ?_ ?_
            · intro d hd ρ W hcs bw hn hg
              cases hd
              have eg : ρ (.tmp 126) = .bool false := hg _ _ _ _ rfl rfl rfl
              have e11 : ρ (.tmp 11) = .int .i64 (k : Int) := hn 11 (by decide)
              clear hn hg
              refine .inl ⟨⟨_, _, rfl, rfl, eg⟩, ?_⟩
              refine .inl ⟨_, W, rfl, e11, Below.refl _ _⟩
            refine And.intro ?_ ?_
            · intro d hd ρ W hcs bw hn hg
              cases hd
              have eg : ρ (.tmp 126) = .bool false := hg _ _ _ _ rfl rfl rfl
              have e127 : ρ (.tmp 127) = .slice (some ad) ln cl := hn 127 (by decide)
              have e128 : ρ (.tmp 128) = .int .i64 (k : Int) := hn 128 (by decide)
              clear hn hg
              refine .inl ⟨⟨_, _, rfl, rfl, eg⟩, ?_⟩
              refine .inl ⟨.pointer (some (ad.add (k * 28))), W, ?_, rfl, Below.refl _ _⟩
              go_simp
            refine And.intro ?_ ?_
            · intro d hd ρ W hcs bw hn hg
              cases hd
              have eg : ρ (.tmp 126) = .bool false := hg _ _ _ _ rfl rfl rfl
              have e129 : ρ (.tmp 129) = .pointer (some (ad.add (k * 28))) := hn 129 (by decide)
              clear hn hg
              refine .inl ⟨⟨_, _, rfl, rfl, eg⟩, ?_⟩
              refine .inl ⟨.pointer (some { block := (ad.add (k * 28)).block, off := (ad.add (k * 28)).off + 8 }), W, ?_, rfl, Below.refl _ _⟩
              go_simp
            refine And.intro ?_ ?_
            · intro d hd ρ W hcs bw hn hg
              cases hd
              have eg : ρ (.tmp 126) = .bool false := hg _ _ _ _ rfl rfl rfl
              have e130 : ρ (.tmp 130) = .pointer (some { block := (ad.add (k * 28)).block, off := (ad.add (k * 28)).off + 8 }) := hn 130 (by decide)
              clear hn hg
              refine .inl ⟨⟨_, _, rfl, rfl, eg⟩, ?_⟩
              refine .inl ⟨.pointer (some { block := (ad.add (k * 28)).block, off := (ad.add (k * 28)).off + 10 }), W, ?_, rfl, Below.refl _ _⟩
              go_simp
            refine And.intro ?_ ?_
            · intro d hd ρ W hcs bw hn hg
              cases hd
              have eg : ρ (.tmp 126) = .bool false := hg _ _ _ _ rfl rfl rfl
              have e131 : ρ (.tmp 131) = .pointer (some { block := (ad.add (k * 28)).block, off := (ad.add (k * 28)).off + 10 }) := hn 131 (by decide)
              clear hn hg
              refine .inl ⟨⟨_, _, rfl, rfl, eg⟩, ?_⟩
              refine .inl ⟨.pointer (some { block := (ad.add (k * 28)).block, off := (ad.add (k * 28)).off + 26 }), W, ?_, rfl, Below.refl _ _⟩
              go_simp
            refine And.intro ?_ ?_
            · intro d hd ρ W hcs bw hn hg
              cases hd
              have eg : ρ (.tmp 126) = .bool false := hg _ _ _ _ rfl rfl rfl
              have e132 : ρ (.tmp 132) = .pointer (some { block := (ad.add (k * 28)).block, off := (ad.add (k * 28)).off + 26 }) := hn 132 (by decide)
              clear hn hg
              refine .inl ⟨⟨_, _, rfl, rfl, eg⟩, ?_⟩
              have z0 : W.cell? { block := (ad.add (k * 28)).block, off := (ad.add (k * 28)).off + 26 } = some (.int .u8 (lco : Int)) := rL9 W bw 18 _ rfl
              have z1 : W.cell? { block := (ad.add (k * 28)).block, off := (ad.add (k * 28)).off + 27 } = some (.string ⟨lte.toArray⟩) := rL9 W bw 19 _ rfl
              refine .inl ⟨.agg #[.int .u8 (lco : Int), .string ⟨lte.toArray⟩], W, ?_, rfl, Below.refl _ _⟩
              go_simp
            refine And.intro ?_ ?_
            · intro d hd ρ W hcs bw hn hg
              cases hd
              have eg : ρ (.tmp 126) = .bool false := hg _ _ _ _ rfl rfl rfl
              have e22 : ρ (.tmp 22) = .pointer (some ⟨gj, 0, none⟩) := hn 22 (by decide)
              clear hn hg
              refine .inl ⟨⟨_, _, rfl, rfl, eg⟩, ?_⟩
              have z0 : W.cell? ⟨gj, 0, none⟩ = some (.int .u8 (lco : Int)) := (Blk.below hj bw (Blk.lt hj)).cell 0
              have z1 : W.cell? ⟨gj, 1, none⟩ = some (.string ⟨lte.toArray⟩) := (Blk.below hj bw (Blk.lt hj)).cell 1
              refine .inl ⟨.agg #[.int .u8 (lco : Int), .string ⟨lte.toArray⟩], W, ?_, rfl, Below.refl _ _⟩
              go_simp
            refine And.intro ?_ ?_
            · intro d hd ρ W hcs bw hn hg
              cases hd
              have eg : ρ (.tmp 126) = .bool false := hg _ _ _ _ rfl rfl rfl
              have e133 : ρ (.tmp 133) = .agg #[.int .u8 (lco : Int), .string ⟨lte.toArray⟩] := hn 133 (by decide)
              have e134 : ρ (.tmp 134) = .agg #[.int .u8 (lco : Int), .string ⟨lte.toArray⟩] := hn 134 (by decide)
              clear hn hg
              refine .inl ⟨⟨_, _, rfl, rfl, eg⟩, ?_⟩
              refine .inl ⟨.bool false, W, ?_, rfl, Below.refl _ _⟩
              go_simp
            refine And.intro ?_ ?_
            · intro d hd ρ W hcs bw hn hg
              cases hd
              have eg : ρ (.tmp 99) = .bool true := hg _ _ _ _ rfl rfl rfl
              have e126 : ρ (.tmp 126) = .bool false := hn 126 (by decide)
              have e135 : ρ (.tmp 135) = .bool false := hn 135 (by decide)
              clear hn hg
              refine .inl ⟨⟨_, _, rfl, rfl, eg⟩, ?_⟩
              have hc1 := hcs.1
              refine .inl ⟨.bool false, W, ?_, rfl, Below.refl _ _⟩
              go_simp
            refine And.intro ?_ ?_
            · intro d hd ρ W hcs bw hn hg
              cases hd
              have eg : ρ (.tmp 97) = .bool false := hg _ _ _ _ rfl rfl rfl
              have e99 : ρ (.tmp 99) = .bool true := hn 99 (by decide)
              have e136 : ρ (.tmp 136) = .bool false := hn 136 (by decide)
              clear hn hg
              refine .inl ⟨⟨_, _, rfl, rfl, eg⟩, ?_⟩
              have hc1 := hcs.1
              refine .inl ⟨.bool false, W, ?_, rfl, Below.refl _ _⟩
              go_simp
            refine And.intro ?_ ?_
            · intro d hd ρ W hcs bw hn hg
              cases hd
              have e97 : ρ (.tmp 97) = .bool false := hn 97 (by decide)
              have e137 : ρ (.tmp 137) = .bool false := hn 137 (by decide)
              clear hn hg
              refine .inl ⟨trivial, ?_⟩
              have hc1 := hcs.1
              refine .inl ⟨.bool false, W, ?_, rfl, Below.refl _ _⟩
              go_simp
            trivial
          · intro a' w' hsz hdf hb hVs
            have q138 : a'.eval (.tmp 138) = .bool false := hVs 138
            have ha := slot_over_seg 83 56 [] rfl (by kernel_rfl) (of_decide_eq_true (by kernel_rfl)) hsz hdf hVs
            clear hVs hsz hdf
            rw [show List.range' 83 56 = [83, 84, 85, 86, 87, 88, 89, 90, 91, 92, 93, 94, 95, 96, 97, 98, 99, 100, 101, 102, 103, 104, 105, 106, 107, 108, 109, 110, 111, 112, 113, 114, 115, 116, 117, 118, 119, 120, 121, 122, 123, 124, 125, 126, 127, 128, 129, 130, 131, 132, 133, 134, 135, 136, 137, 138] from rfl] at ha
            simp only [List.take_succ_cons, List.take_zero, List.drop_succ_cons, List.drop_zero, List.map_cons, List.map_nil, List.cons_append, List.nil_append, List.foldl_cons, List.foldl_nil, List.set_cons_zero, List.set_cons_succ, q138] at ha
            clear q138
            generalize a'.eval (.tmp 83) = x83 at ha
            generalize a'.eval (.tmp 84) = x84 at ha
            generalize a'.eval (.tmp 85) = x85 at ha
            generalize a'.eval (.tmp 86) = x86 at ha
            generalize a'.eval (.tmp 87) = x87 at ha
            generalize a'.eval (.tmp 88) = x88 at ha
            generalize a'.eval (.tmp 89) = x89 at ha
            generalize a'.eval (.tmp 90) = x90 at ha
            generalize a'.eval (.tmp 91) = x91 at ha
            generalize a'.eval (.tmp 92) = x92 at ha
            generalize a'.eval (.tmp 93) = x93 at ha
            generalize a'.eval (.tmp 94) = x94 at ha
            generalize a'.eval (.tmp 95) = x95 at ha
            generalize a'.eval (.tmp 96) = x96 at ha
            generalize a'.eval (.tmp 97) = x97 at ha
            generalize a'.eval (.tmp 98) = x98 at ha
            generalize a'.eval (.tmp 99) = x99 at ha
            generalize a'.eval (.tmp 100) = x100 at ha
            generalize a'.eval (.tmp 101) = x101 at ha
            generalize a'.eval (.tmp 102) = x102 at ha
            generalize a'.eval (.tmp 103) = x103 at ha
            generalize a'.eval (.tmp 104) = x104 at ha
            generalize a'.eval (.tmp 105) = x105 at ha
            generalize a'.eval (.tmp 106) = x106 at ha
            generalize a'.eval (.tmp 107) = x107 at ha
            generalize a'.eval (.tmp 108) = x108 at ha
            generalize a'.eval (.tmp 109) = x109 at ha
            generalize a'.eval (.tmp 110) = x110 at ha
            generalize a'.eval (.tmp 111) = x111 at ha
            generalize a'.eval (.tmp 112) = x112 at ha
            generalize a'.eval (.tmp 113) = x113 at ha
            generalize a'.eval (.tmp 114) = x114 at ha
            generalize a'.eval (.tmp 115) = x115 at ha
            generalize a'.eval (.tmp 116) = x116 at ha
            generalize a'.eval (.tmp 117) = x117 at ha
            generalize a'.eval (.tmp 118) = x118 at ha
            generalize a'.eval (.tmp 119) = x119 at ha
            generalize a'.eval (.tmp 120) = x120 at ha
            generalize a'.eval (.tmp 121) = x121 at ha
            generalize a'.eval (.tmp 122) = x122 at ha
            generalize a'.eval (.tmp 123) = x123 at ha
            generalize a'.eval (.tmp 124) = x124 at ha
            generalize a'.eval (.tmp 125) = x125 at ha
            generalize a'.eval (.tmp 126) = x126 at ha
            generalize a'.eval (.tmp 127) = x127 at ha
            generalize a'.eval (.tmp 128) = x128 at ha
            generalize a'.eval (.tmp 129) = x129 at ha
            generalize a'.eval (.tmp 130) = x130 at ha
            generalize a'.eval (.tmp 131) = x131 at ha
            generalize a'.eval (.tmp 132) = x132 at ha
            generalize a'.eval (.tmp 133) = x133 at ha
            generalize a'.eval (.tmp 134) = x134 at ha
            generalize a'.eval (.tmp 135) = x135 at ha
            generalize a'.eval (.tmp 136) = x136 at ha
            generalize a'.eval (.tmp 137) = x137 at ha
            subst ha
            have bw := BW.out.drew.trans (hb.mono BW.out.drew.size)
            have hc : ClAt w' g x' := Blk.below hc hb (Blk.lt hc)
            have hv : Blk w' gw 36 #[.int .u8 (va : Int), .int .u32 (vb : Int), .int .u8 (vk : Int), .string ⟨vs.toArray⟩, .string ⟨vt.toArray⟩, .string ⟨vu.toArray⟩, .int .u8 (vz : Int)] := Blk.below hv hb (Blk.lt hv)
            have ho : Blk w' go 47 #[.int .u8 0, .int .u8 0, .int .u8 0, .int .u64 0, .int .u8 0, .int .u64 0, .int .u64 0, .int .u8 0, .string ⟨#[]⟩, .slice none 0 0, .slice none 0 0, .int .u8 0, .int .u32 0, .int .u8 0, .string ⟨#[]⟩, .string ⟨#[]⟩, .string ⟨#[]⟩, .int .u8 0, .int .u8 0, .string ⟨#[]⟩] := Blk.below ho hb (Blk.lt ho)
            have hi : Blk w' gi 47 #[.int .u8 0, .int .u8 0, .int .u8 0, .int .u64 0, .int .u8 0, .int .u64 0, .int .u64 0, .int .u8 0, .string ⟨#[]⟩, .slice none 0 0, .slice none 0 0, .int .u8 0, .int .u32 0, .int .u8 0, .string ⟨#[]⟩, .string ⟨#[]⟩, .string ⟨#[]⟩, .int .u8 0, .int .u8 0, .string ⟨#[]⟩] := Blk.below hi hb (Blk.lt hi)
            have hj : Blk w' gj 43 #[.int .u8 (lco : Int), .string ⟨lte.toArray⟩] := Blk.below hj hb (Blk.lt hj)
            have htk : IntKind.u32.wrap ((took : Int) + 1) = ((took + 1 : Nat) : Int) := by rw [IntKind.wrap_u32]; have := H2.out; have := HI.out.hw (by rw [← HWD.out]); omega
            clear hb BW rL9
            go_wp2_with fail
            go_meet
            exact ⟨seq, took + 1, x', lt0, false, rfl, by go_num, rfl, hc, HI', by omega, hv, ho, bw, (fun h => by cases h), (fun _ h => by rw [HW'.out] at h; cases h)⟩
      case rest =>
        obtain ⟨seq', took', ⟨xi, xn, xno, xsq, ⟨na, nb, nk, ns, nt, nu, nz⟩, xw⟩, out, asks, rfl, rfl, rfl, hc, HI', hsk', hv, ho, bw, HAS, HSM⟩ := hcut
        clear HIV HNU HHE HXF HCF HLF HWS HWD rX rL rX5 rL5 q0 p0 HI
        obtain rfl : id = xi := HI'.out.hid.symm
        obtain rfl : m = xn := HI'.out.hn.symm
        obtain rfl : seq' = xsq := HI'.out.hs.symm
        have hnm : xno < m := HI'.out.fits.h4
        have hnm1 : ¬ (m : Int) ≤ (xno : Int) := by omega
        have hnw : IntKind.i64.wrap (xno : Int) = (xno : Int) := by rw [IntKind.wrap_i64]; omega
        have hs3 := H2.out
        have hsu : IntKind.u32.wrap ((seq' : Int)) = (seq' : Int) := by rw [IntKind.wrap_u32]; omega
        have HWB := waits_any g ⟨id, m, xno, seq', ⟨na, nb, nk, ns, nt, nu, nz⟩, xw⟩ wc hc
        cases xw
        · obtain rfl : asks = false := by
            cases asks
            · rfl
            · exact absurd (HAS.out rfl).2 (fun h => by cases h)
          obtain rfl : seq' = took' := (HI'.out.hnw rfl).symm
          have hw0 : IntKind.u32.wrap 0 = 0 := by decide
          cases waited
          · as_aux_lemma =>
            have HWA := Lib.hid (show Calls Try.prog 24 #[.pointer (some ⟨g, 0, none⟩)] wc fun e w' => e = .returned (.tuple #[.agg #[.int .u8 0, .int .u32 0, .int .u8 0, .string ⟨#[]⟩, .string ⟨#[]⟩, .string ⟨#[]⟩, .int .u8 0], .bool false]) ∧ Below wc.heap.size wc w' from HWB)
            go_wp2_with fail
            refine HWA.out.mono ?_; rintro e wd ⟨rfl, Bd⟩
            clear HWA HWB
            have hc : ClAt wd g ⟨id, m, xno, seq', ⟨na, nb, nk, ns, nt, nu, nz⟩, false⟩ := Blk.below hc Bd (Blk.lt hc)
            have hv : Blk wd gw 36 #[.int .u8 (va : Int), .int .u32 (vb : Int), .int .u8 (vk : Int), .string ⟨vs.toArray⟩, .string ⟨vt.toArray⟩, .string ⟨vu.toArray⟩, .int .u8 (vz : Int)] := Blk.below hv Bd (Blk.lt hv)
            have ho : Blk wd go 47 (ltC out) := Blk.below ho Bd (Blk.lt ho)
            have bw := bw.trans (Bd.mono bw.size)
            clear Bd
            have lt1_0 := Blk.lt hc
            have lt1_1 := Blk.lt hv
            have lt1_2 := Blk.lt ho
            have lt1_w := bw.size
            have kn := Blk.new wd 36 #[.int .u8 0, .int .u32 0, .int .u8 0, .string ⟨#[]⟩, .string ⟨#[]⟩, .string ⟨#[]⟩, .int .u8 0]
            obtain ⟨gn, hgn⟩ : ∃ g, g = wd.heap.size := ⟨_, rfl⟩
            obtain ⟨we, hst, n_hc, n_hv, n_ho, hn, n_bw⟩ : ∃ we, (Instr.storeAt 36 (.pointer (some ⟨wd.heap.size, 0, none⟩)) (.agg #[.int .u8 0, .int .u32 0, .int .u8 0, .string ⟨#[]⟩, .string ⟨#[]⟩, .string ⟨#[]⟩, .int .u8 0])).run Try.prog (wd.alloc (.cells #[.int .u8 0, .int .u32 0, .int .u8 0, .string ⟨#[]⟩, .string ⟨#[]⟩, .string ⟨#[]⟩, .int .u8 0] 36)) = .ok () we ∧ ClAt we g ⟨id, m, xno, seq', ⟨na, nb, nk, ns, nt, nu, nz⟩, false⟩ ∧ Blk we gw 36 #[.int .u8 (va : Int), .int .u32 (vb : Int), .int .u8 (vk : Int), .string ⟨vs.toArray⟩, .string ⟨vt.toArray⟩, .string ⟨vu.toArray⟩, .int .u8 (vz : Int)] ∧ Blk we go 47 (ltC out) ∧ Blk we gn 36 #[.int .u8 0, .int .u32 0, .int .u8 0, .string ⟨#[]⟩, .string ⟨#[]⟩, .string ⟨#[]⟩, .int .u8 0] ∧ Below w.heap.size w we :=
              ⟨_, blk_store kn (by rfl) size_cmd (by rfl), Blk.setRowFar (Blk.alloc hc _) (by omega), Blk.setRowFar (Blk.alloc hv _) (by omega), Blk.setRowFar (Blk.alloc ho _) (by omega), hgn ▸ kn.setRow, below_setRow (bw.alloc bw.size _) (by omega)⟩
            have ne_gn_g : gn ≠ g := by omega
            have ne_gn_gw : gn ≠ gw := by omega
            have ne_gn_go : gn ≠ go := by omega
            have le_gn : w.heap.size ≤ gn := by omega
            clear kn bw hc hv ho lt1_0 lt1_1 lt1_2 lt1_w
            have hc := n_hc
            have hv := n_hv
            have ho := n_ho
            have bw := n_bw
            clear n_bw n_hc n_hv n_ho
            go_upto_region 36 with (refine wpList_store (by rfl) (.tmp 24) (.tmp 179) (by rfl) (by rfl) (by rfl) hst ?_)
            rw [← hgn]
            clear hst hgn
            have uhn0 : we.cell? ⟨gn, 0, none⟩ = some (.int .u8 0) := hn.cell 0
            have uhn1 : we.cell? ⟨gn, 1, none⟩ = some (.int .u32 0) := hn.cell 1
            have uhn2 : we.cell? ⟨gn, 2, none⟩ = some (.int .u8 0) := hn.cell 2
            have uhn3 : we.cell? ⟨gn, 3, none⟩ = some (.string ⟨#[]⟩) := hn.cell 3
            have uhn4 : we.cell? ⟨gn, 4, none⟩ = some (.string ⟨#[]⟩) := hn.cell 4
            have uhn5 : we.cell? ⟨gn, 5, none⟩ = some (.string ⟨#[]⟩) := hn.cell 5
            have uhn6 : we.cell? ⟨gn, 6, none⟩ = some (.int .u8 0) := hn.cell 6
            clear HAS HSM hv ho hn
            have HC := Lib.hid hc
            clear hc
            have HB := Lib.hid bw
            clear bw
            go_wp2_with fail
            go_roundg (ln - (k + 1))
            case measure => omega
            case rel => exact ⟨k + 1, seq', seq', ⟨id, m, xno, seq', ⟨na, nb, nk, ns, nt, nu, nz⟩, false⟩, by omega, by go_num, rfl, rfl, HC.out, HI', by omega, HB.out⟩
          · as_aux_lemma =>
            have HWA := Lib.hid (show Calls Try.prog 24 #[.pointer (some ⟨g, 0, none⟩)] wc fun e w' => e = .returned (.tuple #[.agg #[.int .u8 0, .int .u32 0, .int .u8 0, .string ⟨#[]⟩, .string ⟨#[]⟩, .string ⟨#[]⟩, .int .u8 0], .bool false]) ∧ Below wc.heap.size wc w' from HWB)
            go_wp2_with fail
            refine HWA.out.mono ?_; rintro e wd ⟨rfl, Bd⟩
            clear HWA HWB
            have hc : ClAt wd g ⟨id, m, xno, seq', ⟨na, nb, nk, ns, nt, nu, nz⟩, false⟩ := Blk.below hc Bd (Blk.lt hc)
            have hv : Blk wd gw 36 #[.int .u8 (va : Int), .int .u32 (vb : Int), .int .u8 (vk : Int), .string ⟨vs.toArray⟩, .string ⟨vt.toArray⟩, .string ⟨vu.toArray⟩, .int .u8 (vz : Int)] := Blk.below hv Bd (Blk.lt hv)
            have ho : Blk wd go 47 (ltC out) := Blk.below ho Bd (Blk.lt ho)
            have bw := bw.trans (Bd.mono bw.size)
            clear Bd
            have lt1_0 := Blk.lt hc
            have lt1_1 := Blk.lt hv
            have lt1_2 := Blk.lt ho
            have lt1_w := bw.size
            have kn := Blk.new wd 36 #[.int .u8 0, .int .u32 0, .int .u8 0, .string ⟨#[]⟩, .string ⟨#[]⟩, .string ⟨#[]⟩, .int .u8 0]
            obtain ⟨gn, hgn⟩ : ∃ g, g = wd.heap.size := ⟨_, rfl⟩
            obtain ⟨we, hst, n_hc, n_hv, n_ho, hn, n_bw⟩ : ∃ we, (Instr.storeAt 36 (.pointer (some ⟨wd.heap.size, 0, none⟩)) (.agg #[.int .u8 0, .int .u32 0, .int .u8 0, .string ⟨#[]⟩, .string ⟨#[]⟩, .string ⟨#[]⟩, .int .u8 0])).run Try.prog (wd.alloc (.cells #[.int .u8 0, .int .u32 0, .int .u8 0, .string ⟨#[]⟩, .string ⟨#[]⟩, .string ⟨#[]⟩, .int .u8 0] 36)) = .ok () we ∧ ClAt we g ⟨id, m, xno, seq', ⟨na, nb, nk, ns, nt, nu, nz⟩, false⟩ ∧ Blk we gw 36 #[.int .u8 (va : Int), .int .u32 (vb : Int), .int .u8 (vk : Int), .string ⟨vs.toArray⟩, .string ⟨vt.toArray⟩, .string ⟨vu.toArray⟩, .int .u8 (vz : Int)] ∧ Blk we go 47 (ltC out) ∧ Blk we gn 36 #[.int .u8 0, .int .u32 0, .int .u8 0, .string ⟨#[]⟩, .string ⟨#[]⟩, .string ⟨#[]⟩, .int .u8 0] ∧ Below w.heap.size w we :=
              ⟨_, blk_store kn (by rfl) size_cmd (by rfl), Blk.setRowFar (Blk.alloc hc _) (by omega), Blk.setRowFar (Blk.alloc hv _) (by omega), Blk.setRowFar (Blk.alloc ho _) (by omega), hgn ▸ kn.setRow, below_setRow (bw.alloc bw.size _) (by omega)⟩
            have ne_gn_g : gn ≠ g := by omega
            have ne_gn_gw : gn ≠ gw := by omega
            have ne_gn_go : gn ≠ go := by omega
            have le_gn : w.heap.size ≤ gn := by omega
            clear kn bw hc hv ho lt1_0 lt1_1 lt1_2 lt1_w
            have hc := n_hc
            have hv := n_hv
            have ho := n_ho
            have bw := n_bw
            clear n_bw n_hc n_hv n_ho
            go_upto_region 36 with (refine wpList_store (by rfl) (.tmp 24) (.tmp 179) (by rfl) (by rfl) (by rfl) hst ?_)
            rw [← hgn]
            clear hst hgn
            have uhn0 : we.cell? ⟨gn, 0, none⟩ = some (.int .u8 0) := hn.cell 0
            have uhn1 : we.cell? ⟨gn, 1, none⟩ = some (.int .u32 0) := hn.cell 1
            have uhn2 : we.cell? ⟨gn, 2, none⟩ = some (.int .u8 0) := hn.cell 2
            have uhn3 : we.cell? ⟨gn, 3, none⟩ = some (.string ⟨#[]⟩) := hn.cell 3
            have uhn4 : we.cell? ⟨gn, 4, none⟩ = some (.string ⟨#[]⟩) := hn.cell 4
            have uhn5 : we.cell? ⟨gn, 5, none⟩ = some (.string ⟨#[]⟩) := hn.cell 5
            have uhn6 : we.cell? ⟨gn, 6, none⟩ = some (.int .u8 0) := hn.cell 6
            clear HAS HSM hv ho hn
            have HC := Lib.hid hc
            clear hc
            have HB := Lib.hid bw
            clear bw
            go_wp2_with fail
            go_roundg (ln - (k + 1))
            case measure => omega
            case rel => exact ⟨k + 1, seq', seq', ⟨id, m, xno, seq', ⟨na, nb, nk, ns, nt, nu, nz⟩, false⟩, by omega, by go_num, rfl, rfl, HC.out, HI', by omega, HB.out⟩
        · obtain ⟨hq1, hq2, hq3⟩ := HI'.out.hw rfl
          obtain rfl : seq' = nb := hq1.symm
          obtain rfl : id = na := hq2.symm
          have hsub : IntKind.u32.wrap ((seq' : Int) - (took' : Int)) = 1 := by rw [IntKind.wrap_u32]; omega
          have hgt : ¬ (seq' : Int) < (took' : Int) := by omega
          clear hq3 hq1 hq2
          cases waited
          · cases asks
            · as_aux_lemma =>
              have HWA := Lib.hid (show Calls Try.prog 24 #[.pointer (some ⟨g, 0, none⟩)] wc fun e w' => e = .returned (.tuple #[.agg #[.int .u8 (id : Int), .int .u32 (seq' : Int), .int .u8 (nk : Int), .string ⟨ns.toArray⟩, .string ⟨nt.toArray⟩, .string ⟨nu.toArray⟩, .int .u8 (nz : Int)], .bool true]) ∧ Below wc.heap.size wc w' from HWB)
              go_wp2_with fail
              refine HWA.out.mono ?_; rintro e wd ⟨rfl, Bd⟩
              clear HWA HWB
              have hc : ClAt wd g ⟨id, m, xno, seq', ⟨id, seq', nk, ns, nt, nu, nz⟩, true⟩ := Blk.below hc Bd (Blk.lt hc)
              have hv : Blk wd gw 36 #[.int .u8 (va : Int), .int .u32 (vb : Int), .int .u8 (vk : Int), .string ⟨vs.toArray⟩, .string ⟨vt.toArray⟩, .string ⟨vu.toArray⟩, .int .u8 (vz : Int)] := Blk.below hv Bd (Blk.lt hv)
              have ho : Blk wd go 47 (ltC out) := Blk.below ho Bd (Blk.lt ho)
              have bw := bw.trans (Bd.mono bw.size)
              clear Bd
              have lt1_0 := Blk.lt hc
              have lt1_1 := Blk.lt hv
              have lt1_2 := Blk.lt ho
              have lt1_w := bw.size
              have kn := Blk.new wd 36 #[.int .u8 0, .int .u32 0, .int .u8 0, .string ⟨#[]⟩, .string ⟨#[]⟩, .string ⟨#[]⟩, .int .u8 0]
              obtain ⟨gn, hgn⟩ : ∃ g, g = wd.heap.size := ⟨_, rfl⟩
              obtain ⟨we, hst, n_hc, n_hv, n_ho, hn, n_bw⟩ : ∃ we, (Instr.storeAt 36 (.pointer (some ⟨wd.heap.size, 0, none⟩)) (.agg #[.int .u8 (id : Int), .int .u32 (seq' : Int), .int .u8 (nk : Int), .string ⟨ns.toArray⟩, .string ⟨nt.toArray⟩, .string ⟨nu.toArray⟩, .int .u8 (nz : Int)])).run Try.prog (wd.alloc (.cells #[.int .u8 0, .int .u32 0, .int .u8 0, .string ⟨#[]⟩, .string ⟨#[]⟩, .string ⟨#[]⟩, .int .u8 0] 36)) = .ok () we ∧ ClAt we g ⟨id, m, xno, seq', ⟨id, seq', nk, ns, nt, nu, nz⟩, true⟩ ∧ Blk we gw 36 #[.int .u8 (va : Int), .int .u32 (vb : Int), .int .u8 (vk : Int), .string ⟨vs.toArray⟩, .string ⟨vt.toArray⟩, .string ⟨vu.toArray⟩, .int .u8 (vz : Int)] ∧ Blk we go 47 (ltC out) ∧ Blk we gn 36 #[.int .u8 (id : Int), .int .u32 (seq' : Int), .int .u8 (nk : Int), .string ⟨ns.toArray⟩, .string ⟨nt.toArray⟩, .string ⟨nu.toArray⟩, .int .u8 (nz : Int)] ∧ Below w.heap.size w we :=
                ⟨_, blk_store kn (by rfl) size_cmd (by rfl), Blk.setRowFar (Blk.alloc hc _) (by omega), Blk.setRowFar (Blk.alloc hv _) (by omega), Blk.setRowFar (Blk.alloc ho _) (by omega), hgn ▸ kn.setRow, below_setRow (bw.alloc bw.size _) (by omega)⟩
              have ne_gn_g : gn ≠ g := by omega
              have ne_gn_gw : gn ≠ gw := by omega
              have ne_gn_go : gn ≠ go := by omega
              have le_gn : w.heap.size ≤ gn := by omega
              clear kn bw hc hv ho lt1_0 lt1_1 lt1_2 lt1_w
              have hc := n_hc
              have hv := n_hv
              have ho := n_ho
              have bw := n_bw
              clear n_bw n_hc n_hv n_ho
              go_upto_region 36 with (refine wpList_store (by rfl) (.tmp 24) (.tmp 179) (by rfl) (by rfl) (by rfl) hst ?_)
              rw [← hgn]
              clear hst hgn
              have uhn0 : we.cell? ⟨gn, 0, none⟩ = some (.int .u8 (id : Int)) := hn.cell 0
              have uhn1 : we.cell? ⟨gn, 1, none⟩ = some (.int .u32 (seq' : Int)) := hn.cell 1
              have uhn2 : we.cell? ⟨gn, 2, none⟩ = some (.int .u8 (nk : Int)) := hn.cell 2
              have uhn3 : we.cell? ⟨gn, 3, none⟩ = some (.string ⟨ns.toArray⟩) := hn.cell 3
              have uhn4 : we.cell? ⟨gn, 4, none⟩ = some (.string ⟨nt.toArray⟩) := hn.cell 4
              have uhn5 : we.cell? ⟨gn, 5, none⟩ = some (.string ⟨nu.toArray⟩) := hn.cell 5
              have uhn6 : we.cell? ⟨gn, 6, none⟩ = some (.int .u8 (nz : Int)) := hn.cell 6
              clear HAS HSM hv ho hn
              have HC := Lib.hid hc
              clear hc
              have HB := Lib.hid bw
              clear bw
              go_wp2_with fail
              go_roundg (ln - (k + 1))
              case measure => omega
              case rel => exact ⟨k + 1, seq', took', ⟨id, m, xno, seq', ⟨id, seq', nk, ns, nt, nu, nz⟩, true⟩, by omega, by go_num, rfl, rfl, HC.out, HI', by omega, HB.out⟩
            · as_aux_lemma =>
              have ho : Blk wc go 47 #[.int .u8 (16 + (id : Int)), .int .u8 (xno : Int), .int .u8 1, .int .u64 0, .int .u8 0, .int .u64 0, .int .u64 0, .int .u8 0, .string ⟨#[]⟩, .slice none 0 0, .slice none 0 0, .int .u8 (id : Int), .int .u32 (seq' : Int), .int .u8 (nk : Int), .string ⟨ns.toArray⟩, .string ⟨nt.toArray⟩, .string ⟨nu.toArray⟩, .int .u8 (nz : Int), .int .u8 0, .string ⟨#[]⟩] := by have h := (HAS.out (by trivial)).1; rw [h] at ho; exact ho
              have HWA := Lib.hid (show Calls Try.prog 24 #[.pointer (some ⟨g, 0, none⟩)] wc fun e w' => e = .returned (.tuple #[.agg #[.int .u8 (id : Int), .int .u32 (seq' : Int), .int .u8 (nk : Int), .string ⟨ns.toArray⟩, .string ⟨nt.toArray⟩, .string ⟨nu.toArray⟩, .int .u8 (nz : Int)], .bool true]) ∧ Below wc.heap.size wc w' from HWB)
              go_wp2_with fail
              refine HWA.out.mono ?_; rintro e wd ⟨rfl, Bd⟩
              clear HWA HWB
              have hc : ClAt wd g ⟨id, m, xno, seq', ⟨id, seq', nk, ns, nt, nu, nz⟩, true⟩ := Blk.below hc Bd (Blk.lt hc)
              have hv : Blk wd gw 36 #[.int .u8 (va : Int), .int .u32 (vb : Int), .int .u8 (vk : Int), .string ⟨vs.toArray⟩, .string ⟨vt.toArray⟩, .string ⟨vu.toArray⟩, .int .u8 (vz : Int)] := Blk.below hv Bd (Blk.lt hv)
              have ho : Blk wd go 47 #[.int .u8 (16 + (id : Int)), .int .u8 (xno : Int), .int .u8 1, .int .u64 0, .int .u8 0, .int .u64 0, .int .u64 0, .int .u8 0, .string ⟨#[]⟩, .slice none 0 0, .slice none 0 0, .int .u8 (id : Int), .int .u32 (seq' : Int), .int .u8 (nk : Int), .string ⟨ns.toArray⟩, .string ⟨nt.toArray⟩, .string ⟨nu.toArray⟩, .int .u8 (nz : Int), .int .u8 0, .string ⟨#[]⟩] := Blk.below ho Bd (Blk.lt ho)
              have bw := bw.trans (Bd.mono bw.size)
              clear Bd
              have lt1_0 := Blk.lt hc
              have lt1_1 := Blk.lt hv
              have lt1_2 := Blk.lt ho
              have lt1_w := bw.size
              have kn := Blk.new wd 36 #[.int .u8 0, .int .u32 0, .int .u8 0, .string ⟨#[]⟩, .string ⟨#[]⟩, .string ⟨#[]⟩, .int .u8 0]
              obtain ⟨gn, hgn⟩ : ∃ g, g = wd.heap.size := ⟨_, rfl⟩
              obtain ⟨we, hst, n_hc, n_hv, n_ho, hn, n_bw⟩ : ∃ we, (Instr.storeAt 36 (.pointer (some ⟨wd.heap.size, 0, none⟩)) (.agg #[.int .u8 (id : Int), .int .u32 (seq' : Int), .int .u8 (nk : Int), .string ⟨ns.toArray⟩, .string ⟨nt.toArray⟩, .string ⟨nu.toArray⟩, .int .u8 (nz : Int)])).run Try.prog (wd.alloc (.cells #[.int .u8 0, .int .u32 0, .int .u8 0, .string ⟨#[]⟩, .string ⟨#[]⟩, .string ⟨#[]⟩, .int .u8 0] 36)) = .ok () we ∧ ClAt we g ⟨id, m, xno, seq', ⟨id, seq', nk, ns, nt, nu, nz⟩, true⟩ ∧ Blk we gw 36 #[.int .u8 (va : Int), .int .u32 (vb : Int), .int .u8 (vk : Int), .string ⟨vs.toArray⟩, .string ⟨vt.toArray⟩, .string ⟨vu.toArray⟩, .int .u8 (vz : Int)] ∧ Blk we go 47 #[.int .u8 (16 + (id : Int)), .int .u8 (xno : Int), .int .u8 1, .int .u64 0, .int .u8 0, .int .u64 0, .int .u64 0, .int .u8 0, .string ⟨#[]⟩, .slice none 0 0, .slice none 0 0, .int .u8 (id : Int), .int .u32 (seq' : Int), .int .u8 (nk : Int), .string ⟨ns.toArray⟩, .string ⟨nt.toArray⟩, .string ⟨nu.toArray⟩, .int .u8 (nz : Int), .int .u8 0, .string ⟨#[]⟩] ∧ Blk we gn 36 #[.int .u8 (id : Int), .int .u32 (seq' : Int), .int .u8 (nk : Int), .string ⟨ns.toArray⟩, .string ⟨nt.toArray⟩, .string ⟨nu.toArray⟩, .int .u8 (nz : Int)] ∧ Below w.heap.size w we :=
                ⟨_, blk_store kn (by rfl) size_cmd (by rfl), Blk.setRowFar (Blk.alloc hc _) (by omega), Blk.setRowFar (Blk.alloc hv _) (by omega), Blk.setRowFar (Blk.alloc ho _) (by omega), hgn ▸ kn.setRow, below_setRow (bw.alloc bw.size _) (by omega)⟩
              have ne_gn_g : gn ≠ g := by omega
              have ne_gn_gw : gn ≠ gw := by omega
              have ne_gn_go : gn ≠ go := by omega
              have le_gn : w.heap.size ≤ gn := by omega
              clear kn bw hc hv ho lt1_0 lt1_1 lt1_2 lt1_w
              have hc := n_hc
              have hv := n_hv
              have ho := n_ho
              have bw := n_bw
              clear n_bw n_hc n_hv n_ho
              go_upto_region 36 with (refine wpList_store (by rfl) (.tmp 24) (.tmp 179) (by rfl) (by rfl) (by rfl) hst ?_)
              rw [← hgn]
              clear hst hgn
              have uhn0 : we.cell? ⟨gn, 0, none⟩ = some (.int .u8 (id : Int)) := hn.cell 0
              have uhn1 : we.cell? ⟨gn, 1, none⟩ = some (.int .u32 (seq' : Int)) := hn.cell 1
              have uhn2 : we.cell? ⟨gn, 2, none⟩ = some (.int .u8 (nk : Int)) := hn.cell 2
              have uhn3 : we.cell? ⟨gn, 3, none⟩ = some (.string ⟨ns.toArray⟩) := hn.cell 3
              have uhn4 : we.cell? ⟨gn, 4, none⟩ = some (.string ⟨nt.toArray⟩) := hn.cell 4
              have uhn5 : we.cell? ⟨gn, 5, none⟩ = some (.string ⟨nu.toArray⟩) := hn.cell 5
              have uhn6 : we.cell? ⟨gn, 6, none⟩ = some (.int .u8 (nz : Int)) := hn.cell 6
              have uho0 : we.cell? ⟨go, 0, none⟩ = some (.int .u8 (16 + (id : Int))) := ho.cell 0
              have uho1 : we.cell? ⟨go, 1, none⟩ = some (.int .u8 (xno : Int)) := ho.cell 1
              have uho2 : we.cell? ⟨go, 2, none⟩ = some (.int .u8 1) := ho.cell 2
              have uho11 : we.cell? ⟨go, 11, none⟩ = some (.int .u8 (id : Int)) := ho.cell 11
              have uho12 : we.cell? ⟨go, 12, none⟩ = some (.int .u32 (seq' : Int)) := ho.cell 12
              have uho13 : we.cell? ⟨go, 13, none⟩ = some (.int .u8 (nk : Int)) := ho.cell 13
              have uho14 : we.cell? ⟨go, 14, none⟩ = some (.string ⟨ns.toArray⟩) := ho.cell 14
              have uho15 : we.cell? ⟨go, 15, none⟩ = some (.string ⟨nt.toArray⟩) := ho.cell 15
              have uho16 : we.cell? ⟨go, 16, none⟩ = some (.string ⟨nu.toArray⟩) := ho.cell 16
              have uho17 : we.cell? ⟨go, 17, none⟩ = some (.int .u8 (nz : Int)) := ho.cell 17
              clear HAS HSM hv ho hn
              have HC := Lib.hid hc
              clear hc
              have HB := Lib.hid bw
              clear bw
              go_wp2_with fail
              go_roundg (ln - (k + 1))
              case measure => omega
              case rel => exact ⟨k + 1, seq', took', ⟨id, m, xno, seq', ⟨id, seq', nk, ns, nt, nu, nz⟩, true⟩, by omega, by go_num, rfl, rfl, HC.out, HI', by omega, HB.out⟩
          · have hsm := HSM.out rfl rfl
            injection hsm with e1 e2 e3 e4 e5 e6 e7
            obtain rfl := e1.symm
            obtain rfl := e2.symm
            obtain rfl := e3.symm
            obtain rfl := e4.symm
            obtain rfl := e5.symm
            obtain rfl := e6.symm
            obtain rfl := e7.symm
            cases asks
            · as_aux_lemma =>
              have HWA := Lib.hid (show Calls Try.prog 24 #[.pointer (some ⟨g, 0, none⟩)] wc fun e w' => e = .returned (.tuple #[.agg #[.int .u8 (id : Int), .int .u32 (seq' : Int), .int .u8 (nk : Int), .string ⟨ns.toArray⟩, .string ⟨nt.toArray⟩, .string ⟨nu.toArray⟩, .int .u8 (nz : Int)], .bool true]) ∧ Below wc.heap.size wc w' from HWB)
              go_wp2_with fail
              refine HWA.out.mono ?_; rintro e wd ⟨rfl, Bd⟩
              clear HWA HWB
              have hc : ClAt wd g ⟨id, m, xno, seq', ⟨id, seq', nk, ns, nt, nu, nz⟩, true⟩ := Blk.below hc Bd (Blk.lt hc)
              have hv : Blk wd gw 36 #[.int .u8 (id : Int), .int .u32 (seq' : Int), .int .u8 (nk : Int), .string ⟨ns.toArray⟩, .string ⟨nt.toArray⟩, .string ⟨nu.toArray⟩, .int .u8 (nz : Int)] := Blk.below hv Bd (Blk.lt hv)
              have ho : Blk wd go 47 (ltC out) := Blk.below ho Bd (Blk.lt ho)
              have bw := bw.trans (Bd.mono bw.size)
              clear Bd
              have lt1_0 := Blk.lt hc
              have lt1_1 := Blk.lt hv
              have lt1_2 := Blk.lt ho
              have lt1_w := bw.size
              have kn := Blk.new wd 36 #[.int .u8 0, .int .u32 0, .int .u8 0, .string ⟨#[]⟩, .string ⟨#[]⟩, .string ⟨#[]⟩, .int .u8 0]
              obtain ⟨gn, hgn⟩ : ∃ g, g = wd.heap.size := ⟨_, rfl⟩
              obtain ⟨we, hst, n_hc, n_hv, n_ho, hn, n_bw⟩ : ∃ we, (Instr.storeAt 36 (.pointer (some ⟨wd.heap.size, 0, none⟩)) (.agg #[.int .u8 (id : Int), .int .u32 (seq' : Int), .int .u8 (nk : Int), .string ⟨ns.toArray⟩, .string ⟨nt.toArray⟩, .string ⟨nu.toArray⟩, .int .u8 (nz : Int)])).run Try.prog (wd.alloc (.cells #[.int .u8 0, .int .u32 0, .int .u8 0, .string ⟨#[]⟩, .string ⟨#[]⟩, .string ⟨#[]⟩, .int .u8 0] 36)) = .ok () we ∧ ClAt we g ⟨id, m, xno, seq', ⟨id, seq', nk, ns, nt, nu, nz⟩, true⟩ ∧ Blk we gw 36 #[.int .u8 (id : Int), .int .u32 (seq' : Int), .int .u8 (nk : Int), .string ⟨ns.toArray⟩, .string ⟨nt.toArray⟩, .string ⟨nu.toArray⟩, .int .u8 (nz : Int)] ∧ Blk we go 47 (ltC out) ∧ Blk we gn 36 #[.int .u8 (id : Int), .int .u32 (seq' : Int), .int .u8 (nk : Int), .string ⟨ns.toArray⟩, .string ⟨nt.toArray⟩, .string ⟨nu.toArray⟩, .int .u8 (nz : Int)] ∧ Below w.heap.size w we :=
                ⟨_, blk_store kn (by rfl) size_cmd (by rfl), Blk.setRowFar (Blk.alloc hc _) (by omega), Blk.setRowFar (Blk.alloc hv _) (by omega), Blk.setRowFar (Blk.alloc ho _) (by omega), hgn ▸ kn.setRow, below_setRow (bw.alloc bw.size _) (by omega)⟩
              have ne_gn_g : gn ≠ g := by omega
              have ne_gn_gw : gn ≠ gw := by omega
              have ne_gn_go : gn ≠ go := by omega
              have le_gn : w.heap.size ≤ gn := by omega
              clear kn bw hc hv ho lt1_0 lt1_1 lt1_2 lt1_w
              have hc := n_hc
              have hv := n_hv
              have ho := n_ho
              have bw := n_bw
              clear n_bw n_hc n_hv n_ho
              go_upto_region 36 with (refine wpList_store (by rfl) (.tmp 24) (.tmp 179) (by rfl) (by rfl) (by rfl) hst ?_)
              rw [← hgn]
              clear hst hgn
              have uhn0 : we.cell? ⟨gn, 0, none⟩ = some (.int .u8 (id : Int)) := hn.cell 0
              have uhn1 : we.cell? ⟨gn, 1, none⟩ = some (.int .u32 (seq' : Int)) := hn.cell 1
              have uhn2 : we.cell? ⟨gn, 2, none⟩ = some (.int .u8 (nk : Int)) := hn.cell 2
              have uhn3 : we.cell? ⟨gn, 3, none⟩ = some (.string ⟨ns.toArray⟩) := hn.cell 3
              have uhn4 : we.cell? ⟨gn, 4, none⟩ = some (.string ⟨nt.toArray⟩) := hn.cell 4
              have uhn5 : we.cell? ⟨gn, 5, none⟩ = some (.string ⟨nu.toArray⟩) := hn.cell 5
              have uhn6 : we.cell? ⟨gn, 6, none⟩ = some (.int .u8 (nz : Int)) := hn.cell 6
              have uhv0 : we.cell? ⟨gw, 0, none⟩ = some (.int .u8 (id : Int)) := hv.cell 0
              have uhv1 : we.cell? ⟨gw, 1, none⟩ = some (.int .u32 (seq' : Int)) := hv.cell 1
              have uhv2 : we.cell? ⟨gw, 2, none⟩ = some (.int .u8 (nk : Int)) := hv.cell 2
              have uhv3 : we.cell? ⟨gw, 3, none⟩ = some (.string ⟨ns.toArray⟩) := hv.cell 3
              have uhv4 : we.cell? ⟨gw, 4, none⟩ = some (.string ⟨nt.toArray⟩) := hv.cell 4
              have uhv5 : we.cell? ⟨gw, 5, none⟩ = some (.string ⟨nu.toArray⟩) := hv.cell 5
              have uhv6 : we.cell? ⟨gw, 6, none⟩ = some (.int .u8 (nz : Int)) := hv.cell 6
              clear HAS HSM hv ho hn
              have HC := Lib.hid hc
              clear hc
              have HB := Lib.hid bw
              clear bw
              go_wp2_with fail
              go_roundg (ln - (k + 1))
              case measure => omega
              case rel => exact ⟨k + 1, seq', took', ⟨id, m, xno, seq', ⟨id, seq', nk, ns, nt, nu, nz⟩, true⟩, by omega, by go_num, rfl, rfl, HC.out, HI', by omega, HB.out⟩
            · as_aux_lemma =>
              have ho : Blk wc go 47 #[.int .u8 (16 + (id : Int)), .int .u8 (xno : Int), .int .u8 1, .int .u64 0, .int .u8 0, .int .u64 0, .int .u64 0, .int .u8 0, .string ⟨#[]⟩, .slice none 0 0, .slice none 0 0, .int .u8 (id : Int), .int .u32 (seq' : Int), .int .u8 (nk : Int), .string ⟨ns.toArray⟩, .string ⟨nt.toArray⟩, .string ⟨nu.toArray⟩, .int .u8 (nz : Int), .int .u8 0, .string ⟨#[]⟩] := by have h := (HAS.out (by trivial)).1; rw [h] at ho; exact ho
              have HWA := Lib.hid (show Calls Try.prog 24 #[.pointer (some ⟨g, 0, none⟩)] wc fun e w' => e = .returned (.tuple #[.agg #[.int .u8 (id : Int), .int .u32 (seq' : Int), .int .u8 (nk : Int), .string ⟨ns.toArray⟩, .string ⟨nt.toArray⟩, .string ⟨nu.toArray⟩, .int .u8 (nz : Int)], .bool true]) ∧ Below wc.heap.size wc w' from HWB)
              go_wp2_with fail
              refine HWA.out.mono ?_; rintro e wd ⟨rfl, Bd⟩
              clear HWA HWB
              have hc : ClAt wd g ⟨id, m, xno, seq', ⟨id, seq', nk, ns, nt, nu, nz⟩, true⟩ := Blk.below hc Bd (Blk.lt hc)
              have hv : Blk wd gw 36 #[.int .u8 (id : Int), .int .u32 (seq' : Int), .int .u8 (nk : Int), .string ⟨ns.toArray⟩, .string ⟨nt.toArray⟩, .string ⟨nu.toArray⟩, .int .u8 (nz : Int)] := Blk.below hv Bd (Blk.lt hv)
              have ho : Blk wd go 47 #[.int .u8 (16 + (id : Int)), .int .u8 (xno : Int), .int .u8 1, .int .u64 0, .int .u8 0, .int .u64 0, .int .u64 0, .int .u8 0, .string ⟨#[]⟩, .slice none 0 0, .slice none 0 0, .int .u8 (id : Int), .int .u32 (seq' : Int), .int .u8 (nk : Int), .string ⟨ns.toArray⟩, .string ⟨nt.toArray⟩, .string ⟨nu.toArray⟩, .int .u8 (nz : Int), .int .u8 0, .string ⟨#[]⟩] := Blk.below ho Bd (Blk.lt ho)
              have bw := bw.trans (Bd.mono bw.size)
              clear Bd
              have lt1_0 := Blk.lt hc
              have lt1_1 := Blk.lt hv
              have lt1_2 := Blk.lt ho
              have lt1_w := bw.size
              have kn := Blk.new wd 36 #[.int .u8 0, .int .u32 0, .int .u8 0, .string ⟨#[]⟩, .string ⟨#[]⟩, .string ⟨#[]⟩, .int .u8 0]
              obtain ⟨gn, hgn⟩ : ∃ g, g = wd.heap.size := ⟨_, rfl⟩
              obtain ⟨we, hst, n_hc, n_hv, n_ho, hn, n_bw⟩ : ∃ we, (Instr.storeAt 36 (.pointer (some ⟨wd.heap.size, 0, none⟩)) (.agg #[.int .u8 (id : Int), .int .u32 (seq' : Int), .int .u8 (nk : Int), .string ⟨ns.toArray⟩, .string ⟨nt.toArray⟩, .string ⟨nu.toArray⟩, .int .u8 (nz : Int)])).run Try.prog (wd.alloc (.cells #[.int .u8 0, .int .u32 0, .int .u8 0, .string ⟨#[]⟩, .string ⟨#[]⟩, .string ⟨#[]⟩, .int .u8 0] 36)) = .ok () we ∧ ClAt we g ⟨id, m, xno, seq', ⟨id, seq', nk, ns, nt, nu, nz⟩, true⟩ ∧ Blk we gw 36 #[.int .u8 (id : Int), .int .u32 (seq' : Int), .int .u8 (nk : Int), .string ⟨ns.toArray⟩, .string ⟨nt.toArray⟩, .string ⟨nu.toArray⟩, .int .u8 (nz : Int)] ∧ Blk we go 47 #[.int .u8 (16 + (id : Int)), .int .u8 (xno : Int), .int .u8 1, .int .u64 0, .int .u8 0, .int .u64 0, .int .u64 0, .int .u8 0, .string ⟨#[]⟩, .slice none 0 0, .slice none 0 0, .int .u8 (id : Int), .int .u32 (seq' : Int), .int .u8 (nk : Int), .string ⟨ns.toArray⟩, .string ⟨nt.toArray⟩, .string ⟨nu.toArray⟩, .int .u8 (nz : Int), .int .u8 0, .string ⟨#[]⟩] ∧ Blk we gn 36 #[.int .u8 (id : Int), .int .u32 (seq' : Int), .int .u8 (nk : Int), .string ⟨ns.toArray⟩, .string ⟨nt.toArray⟩, .string ⟨nu.toArray⟩, .int .u8 (nz : Int)] ∧ Below w.heap.size w we :=
                ⟨_, blk_store kn (by rfl) size_cmd (by rfl), Blk.setRowFar (Blk.alloc hc _) (by omega), Blk.setRowFar (Blk.alloc hv _) (by omega), Blk.setRowFar (Blk.alloc ho _) (by omega), hgn ▸ kn.setRow, below_setRow (bw.alloc bw.size _) (by omega)⟩
              have ne_gn_g : gn ≠ g := by omega
              have ne_gn_gw : gn ≠ gw := by omega
              have ne_gn_go : gn ≠ go := by omega
              have le_gn : w.heap.size ≤ gn := by omega
              clear kn bw hc hv ho lt1_0 lt1_1 lt1_2 lt1_w
              have hc := n_hc
              have hv := n_hv
              have ho := n_ho
              have bw := n_bw
              clear n_bw n_hc n_hv n_ho
              go_upto_region 36 with (refine wpList_store (by rfl) (.tmp 24) (.tmp 179) (by rfl) (by rfl) (by rfl) hst ?_)
              rw [← hgn]
              clear hst hgn
              have uhn0 : we.cell? ⟨gn, 0, none⟩ = some (.int .u8 (id : Int)) := hn.cell 0
              have uhn1 : we.cell? ⟨gn, 1, none⟩ = some (.int .u32 (seq' : Int)) := hn.cell 1
              have uhn2 : we.cell? ⟨gn, 2, none⟩ = some (.int .u8 (nk : Int)) := hn.cell 2
              have uhn3 : we.cell? ⟨gn, 3, none⟩ = some (.string ⟨ns.toArray⟩) := hn.cell 3
              have uhn4 : we.cell? ⟨gn, 4, none⟩ = some (.string ⟨nt.toArray⟩) := hn.cell 4
              have uhn5 : we.cell? ⟨gn, 5, none⟩ = some (.string ⟨nu.toArray⟩) := hn.cell 5
              have uhn6 : we.cell? ⟨gn, 6, none⟩ = some (.int .u8 (nz : Int)) := hn.cell 6
              have uho0 : we.cell? ⟨go, 0, none⟩ = some (.int .u8 (16 + (id : Int))) := ho.cell 0
              have uho1 : we.cell? ⟨go, 1, none⟩ = some (.int .u8 (xno : Int)) := ho.cell 1
              have uho2 : we.cell? ⟨go, 2, none⟩ = some (.int .u8 1) := ho.cell 2
              have uho11 : we.cell? ⟨go, 11, none⟩ = some (.int .u8 (id : Int)) := ho.cell 11
              have uho12 : we.cell? ⟨go, 12, none⟩ = some (.int .u32 (seq' : Int)) := ho.cell 12
              have uho13 : we.cell? ⟨go, 13, none⟩ = some (.int .u8 (nk : Int)) := ho.cell 13
              have uho14 : we.cell? ⟨go, 14, none⟩ = some (.string ⟨ns.toArray⟩) := ho.cell 14
              have uho15 : we.cell? ⟨go, 15, none⟩ = some (.string ⟨nt.toArray⟩) := ho.cell 15
              have uho16 : we.cell? ⟨go, 16, none⟩ = some (.string ⟨nu.toArray⟩) := ho.cell 16
              have uho17 : we.cell? ⟨go, 17, none⟩ = some (.int .u8 (nz : Int)) := ho.cell 17
              have uhv0 : we.cell? ⟨gw, 0, none⟩ = some (.int .u8 (id : Int)) := hv.cell 0
              have uhv1 : we.cell? ⟨gw, 1, none⟩ = some (.int .u32 (seq' : Int)) := hv.cell 1
              have uhv2 : we.cell? ⟨gw, 2, none⟩ = some (.int .u8 (nk : Int)) := hv.cell 2
              have uhv3 : we.cell? ⟨gw, 3, none⟩ = some (.string ⟨ns.toArray⟩) := hv.cell 3
              have uhv4 : we.cell? ⟨gw, 4, none⟩ = some (.string ⟨nt.toArray⟩) := hv.cell 4
              have uhv5 : we.cell? ⟨gw, 5, none⟩ = some (.string ⟨nu.toArray⟩) := hv.cell 5
              have uhv6 : we.cell? ⟨gw, 6, none⟩ = some (.int .u8 (nz : Int)) := hv.cell 6
              clear HAS HSM hv ho hn
              have HC := Lib.hid hc
              clear hc
              have HB := Lib.hid bw
              clear bw
              go_wp2_with fail
              go_roundg (ln - (k + 1))
              case measure => omega
              case rel => exact ⟨k + 1, seq', took', ⟨id, m, xno, seq', ⟨id, seq', nk, ns, nt, nu, nz⟩, true⟩, by omega, by go_num, rfl, rfl, HC.out, HI', by omega, HB.out⟩
    · have hk4 : ¬ (k : Int) < (ln : Int) := by omega
      go_wp2_with fail
      refine (wakes_any _).mono ?_; rintro e w7 ⟨rfl, B7⟩
      have bz := bw.trans (B7.mono bw.size)
      go_wp2_with fail
      go_ret
      exact ⟨rfl, bz⟩
end Go.Proofs.Ytgpdggojajjppaa.Cli
