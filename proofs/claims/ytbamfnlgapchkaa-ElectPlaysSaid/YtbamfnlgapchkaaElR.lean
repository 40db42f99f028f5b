/- The reference of chapter 19, walked: May, Who, Floor, Votes, Last. Conditions: the lists can be read. -/
import Derived.Test.YtbamfnlgapchkaaElRP
import Derived.Test.YtbamfnlgapchkaaElBindsL
import Derived.Test.YtbamfnlgapchkaaBytes
namespace Go.Proofs.Ytbamfnlgapchkaa.Ele
open Go Go.RowKit Bal Mem DrawInv

theorem rmay_any (b : B) (w : World) : Calls Try.prog 59 #[bV b] w fun e w' => e = .returned (.bool (okB b)) ∧ Below w.heap.size w w' := by
  have b0 := below_1 w (.cells (bC b) 71)
  have k0 := Blk.new w 71 (bC b)
  have HM := Lib.hid (fun W => may_any b W)
  unfold okB
  obtain ⟨n, r⟩ := b
  unfold bV bC at *
  dsimp only at *
  have c0 := k0.cell 0
  have c1 := k0.cell 1
  by_cases h : 0 < n
  · have hi : (0 : Int) < (n : Int) := by omega
    rw [decide_eq_true h, Bool.true_and]
    generalize Bal.mayB ⟨n, r⟩ = mb at *
    clear h k0
    go_enter Try.func59, Try.ntmps59
    go_wp2_with fail
    refine (HM.out _).mono ?_; rintro e w2 ⟨rfl, hal⟩
    have bz := b0.trans (hal.below.mono b0.size)
    go_wp2_with fail
    go_ret
    exact ⟨rfl, bz⟩
  · have hi : ¬ (0 : Int) < (n : Int) := by omega
    rw [decide_eq_false h, Bool.false_and]
    clear h k0 HM
    go_enter Try.func59, Try.ntmps59
    go_wp2_with fail
    go_ret
    exact ⟨rfl, b0⟩
/-- The document's round, a value with a list in memory. -/
structure RefR (w0 w : World) (b : B) (L : List Td) (A : Option Addr) (cp : Nat) : Prop where
  rows : Rows w A 3 tdL L
  fits : ∀ x ∈ L, x.Fits w0
  len : L.length ≤ 100
  flat : (flatT L).length ≤ 10000
def rrC (b : B) (A : Option Addr) (k cp : Nat) : Array Value := #[.int .u64 (b.n : Int), .int .u8 (b.r : Int), .slice A k cp]
theorem RefR.below {w0 w w' : World} {b : B} {L : List Td} {A : Option Addr} {cp : Nat} (h : RefR w0 w b L A cp) (hb : Below w.heap.size w w') : RefR w0 w' b L A cp := ⟨h.rows.below hb, h.fits, h.len, h.flat⟩
theorem td_at {w : World} {A : Option Addr} {L : List Td} (h : Rows w A 3 tdL L) {k : Nat} {x : Td} (hx : L[k]? = some x) : ∃ ad, A = some ad ∧ ∀ W, Below w.heap.size w W → W.cell? (ad.add (k * 3)) = some (.int .u8 (x.node : Int)) ∧ W.cell? { block := (ad.add (k * 3)).block, off := (ad.add (k * 3)).off + 1 } = some (.int .u64 (x.base : Int)) ∧ W.cell? { block := (ad.add (k * 3)).block, off := (ad.add (k * 3)).off + 2 } = some (.slice x.A x.V.length x.c) := by
  obtain ⟨ad, e, hb, a0, a1⟩ := h.at_ hx
  refine ⟨ad, e, fun W hW => ⟨(hW.cell (by rw [block_of_add]; exact hb)).trans (a0 _ rfl), ?_, ?_⟩⟩
  · exact (hW.cell (by show (ad.add (k * 3)).block < _; rw [block_of_add]; exact hb)).trans (a1 0 _ rfl)
  · exact (hW.cell (by show (ad.add (k * 3)).block < _; rw [block_of_add]; exact hb)).trans (a1 1 _ rfl)
/-- A list of numbers handed back, in new memory. -/
def OwnN (w : World) (l : List Nat) (e : Ending) (w' : World) : Prop := ∃ u, e = .returned u ∧ w'.ownsRow w.heap.size 5 1 u l.length (l.map u8v) ∧ Below w.heap.size w w'
set_option linter.unusedVariables false in
set_option maxRecDepth 100000 in
set_option maxHeartbeats 2000000 in
theorem rwho_any {w0 w : World} {b : B} {L : List Td} {A : Option Addr} {cp : Nat} (h : RefR w0 w b L A cp) (k : Nat) (hk : L.length = k) : Calls Try.prog 65 #[.agg (rrC b A k cp)] w fun e w' => OwnN w (nodesT L) e w' := by
  have b0 := below_1 w (.cells (rrC b A k cp) 93)
  have k0 := Blk.new w 93 (rrC b A k cp)
  unfold rrC at *
  obtain ⟨bn, hbn⟩ : ∃ x, b.n = x := ⟨_, rfl⟩
  obtain ⟨br, hbr⟩ : ∃ x, b.r = x := ⟨_, rfl⟩
  rw [hbn, hbr] at b0 k0
  rw [hbn, hbr]
  have HBN := Lib.hid (And.intro hbn hbr)
  obtain ⟨wA, hwA⟩ : ∃ wA, w.alloc (.cells #[.int .u64 (bn : Int), .int .u8 (br : Int), .slice A k cp] 93) = wA := ⟨_, rfl⟩
  obtain ⟨gx, hgx⟩ : ∃ g, w.heap.size = g := ⟨_, rfl⟩
  rw [hwA] at b0 k0
  rw [hgx] at k0
  have HW := Lib.hid (And.intro hwA hgx)
  have HH := Lib.hid h
  have HK := Lib.hid hk
  have hk100 : k ≤ 100 := by rw [← hk]; exact h.len
  clear hwA hgx hbn hbr
  go_enter Try.func65, Try.ntmps65
  go_upto_region 1 with fail
  rw [HW.out.1, HW.out.2]
  clear HW
  go_wp2_with fail
  go_loopg [3, 4] k (fun gk v3 v4 wr => ∃ (i : Nat) (r : Value), i + gk = k ∧ v4 = .int .i64 (i : Int) ∧ r = v3 ∧ wr.ownsRow wA.heap.size 5 1 r i ((nodesT (L.take i)).map u8v) ∧ Below wA.heap.size wA wr)
  case atStart => exact ⟨0, _, by omega, rfl, rfl, World.ownsRow_nil _ _ _ _, Below.refl _ _⟩
  case round =>
    obtain ⟨i, r, hi, rfl, rfl, ho, bw⟩ := hrel
    have kr := k0.below bw k0.lt
    have c2 := kr.cell 2
    by_cases h4 : i < k
    · have hk4 : (i : Int) < (k : Int) := by omega
      obtain ⟨x, hx⟩ : ∃ x, L[i]? = some x := ⟨_, List.getElem?_eq_getElem (by rw [HK.out]; exact h4)⟩
      obtain ⟨ad, rfl, hcs⟩ := td_at HH.out.rows hx
      have hc := hcs wr (b0.trans (bw.mono b0.size))
      clear hcs
      have q0 := hc.1
      have HE : Hid (nodesT (L.take (i + 1)) = nodesT (L.take i) ++ [x.node]) := by show _ = _; unfold nodesT; rw [List.take_add_one, hx, List.map_append]; rfl
      obtain ⟨r', w2, happ, ho2, hb2⟩ := Byt.app_byte ho bw.size (by omega) x.node
      have he : (nodesT (L.take (i + 1))).map u8v = (nodesT (L.take i)).map u8v ++ [.int .u8 (x.node : Int)] := by rw [HE.out, List.map_append]; rfl
      rw [← he] at ho2
      have HF := Lib.hid (And.intro ho2 (bw.trans hb2))
      clear hc hx ho he ho2 hb2 bw kr k0
      generalize x.node = xn at *
      go_wp2_with (refine wpList_run_append (by rfl) (.tmp 12) (.tmp 19) 22 (by rfl) (by rfl) (by rfl) happ ?_)
      go_roundg (k - (i + 1))
      case measure => omega
      case rel => exact ⟨i + 1, r', by omega, by go_num, rfl, HF.out.1, HF.out.2⟩
    · have hk4 : ¬ (i : Int) < (k : Int) := by omega
      obtain rfl : k = i := by omega
      rw [List.take_of_length_le (by rw [HK.out]; exact Nat.le_refl _)] at ho
      have bz := b0.trans (bw.mono b0.size)
      have HQ : Hid (OwnN w (nodesT L) (.returned r) wr) := ⟨r, rfl, by rw [show (nodesT L).length = k by unfold nodesT; rw [List.length_map]; exact HK.out]; exact ⟨ho.1, ho.2.imp id fun ⟨g, cap, cur, e1, e2, e3⟩ => ⟨g, cap, cur, e1, Nat.le_trans b0.size e2, e3⟩⟩, bz⟩
      clear ho bw kr
      go_wp2_with fail
      go_ret
      exact HQ.out
set_option linter.unusedVariables false in
set_option maxRecDepth 100000 in
set_option maxHeartbeats 2000000 in
theorem rfloor_any {w0 w : World} {b : B} {L : List Td} {A : Option Addr} {cp : Nat} (h : RefR w0 w b L A cp) (k : Nat) (hk : L.length = k) : Calls Try.prog 61 #[.agg (rrC b A k cp)] w fun e w' => e = .returned (.tuple #[.int .u64 ((floorT L).1 : Int), .int .u8 ((floorT L).2 : Int)]) ∧ Below w.heap.size w w' := by
  have b0 := below_1 w (.cells (rrC b A k cp) 93)
  have k0 := Blk.new w 93 (rrC b A k cp)
  unfold rrC at *
  obtain ⟨bn, hbn⟩ : ∃ x, b.n = x := ⟨_, rfl⟩
  obtain ⟨br, hbr⟩ : ∃ x, b.r = x := ⟨_, rfl⟩
  rw [hbn, hbr] at b0 k0
  rw [hbn, hbr]
  have HBN := Lib.hid (And.intro hbn hbr)
  obtain ⟨wA, hwA⟩ : ∃ wA, w.alloc (.cells #[.int .u64 (bn : Int), .int .u8 (br : Int), .slice A k cp] 93) = wA := ⟨_, rfl⟩
  obtain ⟨gx, hgx⟩ : ∃ g, w.heap.size = g := ⟨_, rfl⟩
  rw [hwA] at b0 k0
  rw [hgx] at k0
  have HW := Lib.hid (And.intro hwA hgx)
  have HH := Lib.hid h
  have HK := Lib.hid hk
  have hk100 : k ≤ 100 := by rw [← hk]; exact h.len
  clear hwA hgx hbn hbr
  go_enter Try.func61, Try.ntmps61
  go_upto_region 1 with fail
  rw [HW.out.1, HW.out.2]
  clear HW
  go_wp2_with fail
  go_loopg [4, 5, 6] k (fun gk v4 v5 v6 wr => ∃ (i : Nat), i + gk = k ∧ v6 = .int .i64 (i : Int) ∧ v4 = .int .u64 ((floorT (L.take i)).1 : Int) ∧ v5 = .int .u8 ((floorT (L.take i)).2 : Int) ∧ wr = wA)
  case atStart => exact ⟨0, by omega, rfl, rfl, rfl, rfl⟩
  case round =>
    obtain ⟨i, hi, rfl, rfl, rfl, rfl⟩ := hrel
    have c2 := k0.cell 2
    have bw := Below.refl wr.heap.size wr
    by_cases h4 : i < k
    · have hk4 : (i : Int) < (k : Int) := by omega
      obtain ⟨x, hx⟩ : ∃ x, L[i]? = some x := ⟨_, List.getElem?_eq_getElem (by rw [HK.out]; exact h4)⟩
      obtain ⟨ad, rfl, hcs⟩ := td_at HH.out.rows hx
      have hc := hcs wr (b0.trans (bw.mono b0.size))
      clear hcs
      have q0 := hc.1
      have q1 := hc.2.1
      have hsn : floorT (L.take (i + 1)) = flF (floorT (L.take i)) x := by rw [List.take_add_one, hx]; exact floor_snoc _ x
      obtain ⟨f, hf⟩ : ∃ f, f = (floorT (L.take i)).1 := ⟨_, rfl⟩
      obtain ⟨g, hg⟩ : ∃ g, g = (floorT (L.take i)).2 := ⟨_, rfl⟩
      rw [← hf, ← hg]
      by_cases hlt : f < x.base
      · have hlti : (f : Int) < (x.base : Int) := by omega
        have HE : Hid (floorT (L.take (i + 1)) = (x.base, x.node)) := by show _ = _; rw [hsn]; unfold flF; rw [← hf]; exact if_pos hlt
        generalize x.base = xb at *
        generalize x.node = xn at *
        clear hc hx hsn hf hg hlt k0 bw
        go_wp2_with fail
        go_roundg (k - (i + 1))
        case measure => omega
        case rel => exact ⟨i + 1, by omega, by go_num, by rw [HE.out], by rw [HE.out], rfl⟩
      · have hlti : ¬ (f : Int) < (x.base : Int) := by omega
        have HE : Hid (floorT (L.take (i + 1)) = (f, g)) := by show _ = _; rw [hsn]; unfold flF; rw [← hf, if_neg hlt, hf, hg]
        generalize x.base = xb at *
        generalize x.node = xn at *
        clear hc hx hsn hf hg hlt k0 bw
        go_wp2_with fail
        go_roundg (k - (i + 1))
        case measure => omega
        case rel => exact ⟨i + 1, by omega, by go_num, by rw [HE.out], by rw [HE.out], rfl⟩
    · have hk4 : ¬ (i : Int) < (k : Int) := by omega
      obtain rfl : k = i := by omega
      rw [List.take_of_length_le (by rw [HK.out]; exact Nat.le_refl _)]
      clear bw k0
      go_wp2_with fail
      exact bodyPost_ret (v := .tuple #[.int .u64 ((floorT L).1 : Int), .int .u8 ((floorT L).2 : Int)]) (by simp [results, Try.results61]) rfl ⟨rfl, b0⟩
/-- Votes handed back, in new memory. -/
def OwnV (w : World) (V : List Vt) (e : Ending) (w' : World) : Prop := ∃ A c, e = .returned (.slice A V.length c) ∧ Rows w' A 4 vtL V ∧ (∀ ad, A = some ad → w.heap.size ≤ ad.block) ∧ Below w.heap.size w w'
set_option linter.unusedVariables false in
set_option maxRecDepth 100000 in
set_option maxHeartbeats 2000000 in
theorem rvotes_any {w0 w : World} {b : B} {L : List Td} {A : Option Addr} {cp : Nat} (h : RefR w0 w b L A cp) (h0 : Below w0.heap.size w0 w) (k : Nat) (hk : L.length = k) : Calls Try.prog 86 #[.agg (rrC b A k cp)] w fun e w' => OwnV w (flatT L) e w' := by
  have b0 := below_1 w (.cells (rrC b A k cp) 93)
  have k0 := Blk.new w 93 (rrC b A k cp)
  unfold rrC at *
  obtain ⟨bn, hbn⟩ : ∃ x, b.n = x := ⟨_, rfl⟩
  obtain ⟨br, hbr⟩ : ∃ x, b.r = x := ⟨_, rfl⟩
  rw [hbn, hbr] at b0 k0
  rw [hbn, hbr]
  have HBN := Lib.hid (And.intro hbn hbr)
  obtain ⟨wA, hwA⟩ : ∃ wA, w.alloc (.cells #[.int .u64 (bn : Int), .int .u8 (br : Int), .slice A k cp] 93) = wA := ⟨_, rfl⟩
  obtain ⟨gx, hgx⟩ : ∃ g, w.heap.size = g := ⟨_, rfl⟩
  rw [hwA] at b0 k0
  rw [hgx] at k0
  have HW := Lib.hid (And.intro hwA hgx)
  have HH := Lib.hid h
  have HK := Lib.hid hk
  have hk100 : k ≤ 100 := by rw [← hk]; exact h.len
  clear hwA hgx hbn hbr
  go_enter Try.func86, Try.ntmps86
  go_upto_region 1 with fail
  rw [HW.out.1, HW.out.2]
  clear HW
  go_wp2_with fail
  go_loopg [3, 4] k (fun gk v3 v4 wr => ∃ (i : Nat) (r : Value), i + gk = k ∧ v4 = .int .i64 (i : Int) ∧ r = v3 ∧ wr.ownsRow wA.heap.size 73 4 r (flatT (L.take i)).length ((flatT (L.take i)).flatMap vtL) ∧ Below wA.heap.size wA wr)
  case atStart => exact ⟨0, _, by omega, rfl, rfl, World.ownsRow_nil _ _ _ _, Below.refl _ _⟩
  case round =>
    obtain ⟨i, r, hi, rfl, rfl, ho, bw⟩ := hrel
    have kr := k0.below bw k0.lt
    have c2 := kr.cell 2
    by_cases h4 : i < k
    · have hk4 : (i : Int) < (k : Int) := by omega
      obtain ⟨x, hx⟩ : ∃ x, L[i]? = some x := ⟨_, List.getElem?_eq_getElem (by rw [HK.out]; exact h4)⟩
      obtain ⟨ad, rfl, hcs⟩ := td_at HH.out.rows hx
      have hc := hcs wr (b0.trans (bw.mono b0.size))
      clear hcs
      have q2 := hc.2.2
      have hfx := HH.out.fits x (List.mem_of_getElem? hx)
      have hxr := hfx.2.2.1
      have bz := (h0.trans (b0.mono h0.size)).trans (bw.mono (Nat.le_trans h0.size b0.size))
      have hxr2 : Rows wr x.A 4 vtL x.V := fun j y hy => by
        obtain ⟨ad, e, hb, hcc⟩ := hxr j y hy
        exact ⟨ad, e, Nat.lt_of_lt_of_le hb bz.size, fun t v hv => (bz.cell (by rw [block_of_add]; exact hb)).trans (hcc t v hv)⟩
      have hfl : flatT (L.take (i + 1)) = flatT (L.take i) ++ x.V := by rw [List.take_add_one, hx]; exact flat_snoc _ x
      have hle : (flatT (L.take (i + 1))).length ≤ 10000 := by
        refine Nat.le_trans ?_ HH.out.flat
        have := flat_take_le L (i + 1)
        exact this
      rw [hfl, List.length_append] at hle
      obtain ⟨r', w2, happ, ho2, hb2⟩ := app_votes (B := wA.heap.size) bw.size ho hxr2 (c := x.c) (by omega)
      rw [← hfl] at ho2
      have HF := Lib.hid (And.intro ho2 (bw.trans hb2))
      obtain ⟨vn, hvn⟩ : ∃ n, n = x.V.length := ⟨_, rfl⟩
      rw [← hvn] at happ q2
      generalize x.A = xA at *
      generalize x.c = xc at *
      clear hc hx ho ho2 hb2 bw kr k0 hfx hxr hxr2 bz hfl hle hvn h0
      go_wp2_with (refine wpList_run_append (by rfl) (.tmp 12) (.tmp 18) 69 (by rfl) (by rfl) (by rfl) happ ?_)
      go_roundg (k - (i + 1))
      case measure => omega
      case rel => exact ⟨i + 1, r', by omega, by go_num, rfl, HF.out.1, HF.out.2⟩
    · have hk4 : ¬ (i : Int) < (k : Int) := by omega
      obtain rfl : k = i := by omega
      rw [List.take_of_length_le (by rw [HK.out]; exact Nat.le_refl _)] at ho
      have bz := b0.trans (bw.mono b0.size)
      obtain ⟨A7, c7, hv7, _, hr7, hA7⟩ := own_rows_at vtL_len (by omega) ho
      have HQ : Hid (OwnV w (flatT L) (.returned r) wr) := ⟨A7, c7, by rw [hv7], hr7, (fun ad he => Nat.le_trans b0.size (hA7 ad he)), bz⟩
      clear ho bw kr hv7 hr7 hA7
      go_wp2_with fail
      go_ret
      exact HQ.out
set_option linter.unusedVariables false in
set_option maxRecDepth 100000 in
set_option maxHeartbeats 2000000 in
theorem rlast_any {w0 w : World} {b : B} {L : List Td} {A : Option Addr} {cp : Nat} (h : RefR w0 w b L A cp) (h0 : Below w0.heap.size w0 w) (k : Nat) (hk : L.length = k) : Calls Try.prog 66 #[.agg (rrC b A k cp)] w fun e w' => e = .returned (.int .u64 (lastT (flatT L) : Int)) ∧ Below w.heap.size w w' := by
  have b0 := below_1 w (.cells (rrC b A k cp) 93)
  have k0 := Blk.new w 93 (rrC b A k cp)
  unfold rrC at *
  obtain ⟨bn, hbn⟩ : ∃ x, b.n = x := ⟨_, rfl⟩
  obtain ⟨br, hbr⟩ : ∃ x, b.r = x := ⟨_, rfl⟩
  rw [hbn, hbr] at b0 k0
  rw [hbn, hbr]
  have HBN := Lib.hid (And.intro hbn hbr)
  obtain ⟨wA, hwA⟩ : ∃ wA, w.alloc (.cells #[.int .u64 (bn : Int), .int .u8 (br : Int), .slice A k cp] 93) = wA := ⟨_, rfl⟩
  obtain ⟨gx, hgx⟩ : ∃ g, w.heap.size = g := ⟨_, rfl⟩
  rw [hwA] at b0 k0
  rw [hgx] at k0
  have HW := Lib.hid (And.intro hwA hgx)
  have HH := Lib.hid h
  have HK := Lib.hid hk
  have hk100 : k ≤ 100 := by rw [← hk]; exact h.len
  clear hwA hgx hbn hbr
  have HVO := Lib.hid (rvotes_any (h.below b0) (h0.trans (b0.mono h0.size)) k hk)
  unfold rrC at HVO
  rw [HBN.out.1, HBN.out.2] at HVO
  have c0 := k0.cell 0
  have c1 := k0.cell 1
  have c2 := k0.cell 2
  go_enter Try.func66, Try.ntmps66
  go_upto_region 1 with fail
  rw [HW.out.1, HW.out.2]
  clear HW
  go_wp2_with fail
  refine HVO.out.mono ?_; rintro e w2 hvv
  clear HVO c0 c1 c2
  obtain ⟨A7, c7, rfl, hr7, _, B7⟩ := hvv
  have b7 := b0.trans (B7.mono b0.size)
  have hfl := h.flat
  obtain ⟨V, hV⟩ : ∃ V, V = flatT L := ⟨_, rfl⟩
  rw [← hV] at hr7 hfl ⊢
  obtain ⟨vn, hvn⟩ : ∃ n, n = V.length := ⟨_, rfl⟩
  rw [← hvn] at hfl ⊢
  have HR7 := Lib.hid hr7
  have HVN := Lib.hid hvn
  have HVF := Lib.hid hV
  clear hV hvn hr7 B7 h h0 hk
  go_wp2_with fail
  go_loopg [3, 5] vn (fun gk v3 v5 wr => ∃ (i : Nat), i + gk = vn ∧ v5 = .int .i64 (i : Int) ∧ v3 = .int .u64 (lastT (V.take i) : Int) ∧ wr = w2)
  case atStart => exact ⟨0, by omega, rfl, rfl, rfl⟩
  case round =>
    obtain ⟨i, hi, rfl, rfl, rfl⟩ := hrel
    by_cases h4 : i < vn
    · have hk4 : (i : Int) < (vn : Int) := by omega
      obtain ⟨x, hx⟩ : ∃ x, V[i]? = some x := ⟨_, List.getElem?_eq_getElem (by rw [← HVN.out]; exact h4)⟩
      obtain ⟨ad, rfl, hc⟩ := row4_all HR7.out hx
      have q0 := (hc wr (Below.refl _ _)).1
      have hsn : lastT (V.take (i + 1)) = max (lastT (V.take i)) x.slot := by rw [List.take_add_one, hx]; exact last_snoc _ x
      obtain ⟨f, hf⟩ : ∃ f, f = lastT (V.take i) := ⟨_, rfl⟩
      rw [← hf] at hsn ⊢
      by_cases hlt : f < x.slot
      · have hlti : (f : Int) < (x.slot : Int) := by omega
        have HE : Hid (lastT (V.take (i + 1)) = x.slot) := by show _ = _; rw [hsn]; omega
        generalize x.slot = xs at *
        clear hc hx hsn hf hlt
        go_wp2_with fail
        go_roundg (vn - (i + 1))
        case measure => omega
        case rel => exact ⟨i + 1, by omega, by go_num, by rw [HE.out], rfl⟩
      · have hlti : ¬ (f : Int) < (x.slot : Int) := by omega
        have HE : Hid (lastT (V.take (i + 1)) = f) := by show _ = _; rw [hsn]; omega
        generalize x.slot = xs at *
        clear hc hx hsn hf hlt
        go_wp2_with fail
        go_roundg (vn - (i + 1))
        case measure => omega
        case rel => exact ⟨i + 1, by omega, by go_num, by rw [HE.out], rfl⟩
    · have hk4 : ¬ (i : Int) < (vn : Int) := by omega
      obtain rfl : vn = i := by omega
      rw [List.take_of_length_le (by rw [← HVN.out]; exact Nat.le_refl _)]
      go_wp2_with fail
      go_ret
      exact ⟨by rw [← HVF.out]; rfl, b7⟩
end Go.Proofs.Ytbamfnlgapchkaa.Ele
