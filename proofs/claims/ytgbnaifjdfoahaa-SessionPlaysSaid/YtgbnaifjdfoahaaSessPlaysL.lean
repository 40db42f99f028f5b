/- The law SessionPlays walked. Conditions: the list can be read. -/
import Derived.Test.YtgbnaifjdfoahaaSessKeepL
import Derived.Test.YtgbnaifjdfoahaaSessAlike
import Derived.Test.YtgbnaifjdfoahaaSessBytes
import Derived.Test.YtgbnaifjdfoahaaKeepR
import Derived.Deep.DeepCutAuto
import Derived.Lib.SlBytesConst
namespace Go.Proofs.Ytgbnaifjdfoahaa.Sess
open Go.RowKit Wire

theorem keep_tab (l : List Kp) (x : Kp) : tabV (keepT (tabOf l) x.client ⟨x.seq, x.code, x.text⟩) = tabV (tabOf (keepL l x)) := by
  have h : keepT (tabOf l) x.client ⟨x.seq, x.code, x.text⟩ = tabOf (keepL l x) := by
    funext c
    have e : (lookN (tabOf l) x.client x.seq).2.2 = 1 ↔ x.client < 4 ∧ (tabOf l x.client).seq < x.seq := by
      unfold lookN
      by_cases h1 : 4 ≤ x.client ∨ x.seq = 0
      · rw [if_pos h1]; simp; omega
      · rw [if_neg h1]
        by_cases h2 : (tabOf l x.client).seq < x.seq
        · rw [if_pos h2]; simp; omega
        · rw [if_neg h2]
          by_cases h3 : x.seq = (tabOf l x.client).seq
          · rw [if_pos h3]; simp; omega
          · rw [if_neg h3]; simp; omega
    unfold keepT keepL
    by_cases h : x.client < 4 ∧ (tabOf l x.client).seq < x.seq
    · rw [if_pos h, if_pos (e.2 h)]
      unfold tabOf
      rw [lastL_snoc]
      by_cases hc : c = x.client
      · rw [if_pos hc, if_pos hc.symm]
      · rw [if_neg hc, if_neg (fun h => hc h.symm)]
    · rw [if_neg h, if_neg (fun h' => h (e.1 h'))]
  rw [h]
theorem keepL_mem (l : List Kp) (x y : Kp) (h : y ∈ keepL l x) : y ∈ l ∨ y = x := by
  unfold keepL at h
  split at h
  · rcases List.mem_append.1 h with h | h
    · exact .inl h
    · exact .inr (List.mem_singleton.1 h)
  · exact .inl h
theorem tab_ok (l : List Kp) (h : ∀ x ∈ l, Kp.Fits x ∧ x.text.size ≤ 200) (c : Nat) (hc : c < 4) : (tabOf l c).Ok := by
  obtain ⟨⟨h1, h2, h3, _⟩, h4⟩ := lastL_fits l c (by omega) (fun t => t.size ≤ 200) (by simp [noText, ByteArray.size]) h
  exact ⟨h2, h3, by show (lastL l c).text.size ≤ 1000; omega⟩

theorem tabB_len (t : Nat → Ent) (h : ∀ c, c < 4 → (t c).Ok) : (tabB t).length ≤ 4076 := by
  have h0 := entB_len _ (h 0 (by omega))
  have h1 := entB_len _ (h 1 (by omega))
  have h2 := entB_len _ (h 2 (by omega))
  have h3 := entB_len _ (h 3 (by omega))
  have e : tabB t = entB (t 0) ++ entB (t 1) ++ entB (t 2) ++ entB (t 3) := by
    unfold tabB
    rw [tabTo_succ, tabTo_succ, tabTo_succ, tabTo_succ]
    simp [tabTo]
  rw [e]
  simp only [List.length_append]
  omega
theorem one_reads_f (W : World) {r : Nat} (hb : r < 256) (fz : Nat × Nat) : Reads (W.alloc (.cells #[.int .u8 (r : Int)] 5 fz)) (W.alloc (.cells #[.int .u8 (r : Int)] 5 fz)).heap.size 1 (some ⟨W.heap.size, 0, none⟩) 1 (bv [UInt8.ofNat r]) := by
  have hv : bv [UInt8.ofNat r] = [.int .u8 (r : Int)] := by
    show [Value.int .u8 ((UInt8.ofNat r).toNat : Int)] = _
    rw [UInt8.toNat_ofNat', Nat.mod_eq_of_lt (by omega)]
  rw [hv]
  refine ⟨rfl, fun _ => ⟨_, rfl, by simp, fun j u hu => ?_⟩⟩
  match j, hu with
  | 0, hu =>
    obtain rfl : Value.int .u8 (r : Int) = u := Option.some.inj hu
    have e : (⟨W.heap.size, 0, none⟩ : Addr).add 0 = ⟨W.heap.size, 0, none⟩ := by unfold Addr.add; simp
    rw [e]
    exact cell_of_row _ W.heap.size 0 #[.int .u8 (r : Int)] 5 fz (heap_alloc_new W _)
/-! ### Whether acts are great -/
def GreatRet2 (l : List Kp) (w : World) (e : Ending) (w' : World) : Prop := (∃ b : Bool, e = .returned (.bool b) ∧ (b = false → l.length ≤ 200 ∧ ∀ x ∈ l, x.text.size ≤ 200)) ∧ Below w.heap.size w w'
def GreatAt2 (l : List Kp) (w : World) (gk : Nat) (i : Value) (wr : World) : Prop :=
  ∃ k : Nat, k + gk = l.length ∧ i = .int .i64 (k : Int) ∧ (∀ x ∈ l.take k, x.text.size ≤ 200) ∧ Below w.heap.size w wr
set_option maxRecDepth 100000 in
set_option maxHeartbeats 2000000 in
theorem great2_any (l : List Kp) (hl : l.length ≤ 9223372036854775807) (A : Option Addr) (c : Nat) (w : World) (h : Rows w A 4 kpC l) :
    Calls Try.prog 15 #[.slice A l.length c] w fun e w' => GreatRet2 l w e w' := by
  by_cases h2 : 200 < l.length
  · go_enter Try.func15, Try.ntmps15
    go_wp2
    go_ret
    exact ⟨⟨true, rfl, by simp⟩, Below.refl _ _⟩
  · go_enter Try.func15, Try.ntmps15
    go_wp2_with fail
    go_loopg [3] l.length (fun gk i wr => GreatAt2 l w gk i wr)
    case atStart => exact ⟨0, by omega, rfl, by simp, Below.refl _ _⟩
    case round =>
      obtain ⟨k, hk, rfl, hsh, hb⟩ := hrel
      by_cases hkl : k < l.length
      · obtain ⟨x, hx⟩ : ∃ x, l[k]? = some x := ⟨_, List.getElem?_eq_getElem hkl⟩
        obtain ⟨ad, rfl, hlt, _, a1⟩ := h.at_ hx
        have a3' := a1 2
        have a3 := (hb.cell (by show (ad.add (k * 4)).block < _; rw [block_of_add]; exact hlt)).trans (a3' _ rfl)
        have htk : l.take (k + 1) = l.take k ++ [x] := by rw [List.take_add_one, hx]; rfl
        obtain ⟨xc, xs, xk, xt⟩ := x
        simp only at a3
        have HTK := Lib.hid htk
        have hki : (k : Int) < (l.length : Int) := by omega
        clear hx a1 a3' htk
        by_cases h3 : 200 < xt.size
        · go_wp2_with fail
          go_ret
          exact ⟨⟨true, rfl, by simp⟩, hb⟩
        · have hsh' : ∀ y ∈ l.take (k + 1), y.text.size ≤ 200 := by
            rw [HTK.out]
            intro y hy
            rcases List.mem_append.1 hy with hy | hy
            · exact hsh y hy
            · obtain rfl := List.mem_singleton.1 hy; show xt.size ≤ 200; omega
          go_wp2_with fail
          go_roundg (l.length - (k + 1))
          case measure => omega
          case rel => exact ⟨k + 1, by omega, by go_num, hsh', hb⟩
      · obtain rfl : k = l.length := by omega
        rw [List.take_length] at hsh
        go_wp2_with fail
        go_ret
        exact ⟨⟨false, rfl, fun _ => ⟨by omega, hsh⟩⟩, hb⟩

/-! ### The law -/
def PlaysAt (l : List Kp) (T : Nat) (w : World) (gk : Nat) (s4 s5 : Value) (wr : World) : Prop :=
  ∃ (k : Nat) (wl : List Kp) (A : Option Addr) (c : Nat), k + gk = l.length ∧ s5 = .int .i64 (k : Int) ∧ s4 = .slice A wl.length c ∧ wl.length ≤ k ∧ (∀ x ∈ wl, Kp.Fits x ∧ x.text.size ≤ 200) ∧ Rows wr A 4 kpC wl ∧ (∀ ad, A = some ad → ad.block ≠ T) ∧ Kg [(T, 31, tabC (tabOf wl))] w wr
set_option linter.unusedSimpArgs false in
set_option maxRecDepth 100000 in
set_option maxHeartbeats 16000000 in
theorem plays_any (l : List Kp) (hl : l.length ≤ 9223372036854775807) (hf : ∀ x ∈ l, Kp.Fits x) (A : Option Addr) (cap : Nat) (w : World) (h : Rows w A 4 kpC l) :
    Calls Try.prog 3 #[.slice A l.length cap] w fun e w' => e = .returned (.bool true) ∧ Below w.heap.size w w' := by
  go_enter Try.func3, Try.ntmps3
  go_wp2_with fail
  refine (great2_any l hl A cap w h).mono ?_; rintro e w1 ⟨⟨b, rfl, hgb⟩, B1⟩
  cases b
  case true =>
    go_wp2_with fail
    refine (wakes12_any _).mono ?_; rintro e w2 ⟨rfl, B2⟩
    go_wp2
    go_ret
    exact ⟨rfl, B1.trans (B2.mono B1.size)⟩
  case false =>
    obtain ⟨hl2, hsh⟩ := hgb rfl
    have e0 : tabC (tabOf []) = #[.int .u32 0, .int .u8 0, .string ⟨#[]⟩, .int .u32 0, .int .u8 0, .string ⟨#[]⟩, .int .u32 0, .int .u8 0, .string ⟨#[]⟩, .int .u32 0, .int .u8 0, .string ⟨#[]⟩] := rfl
    have k0 := ((Kg.refl w).below B1).new 31 (tabC (tabOf []))
    rw [e0] at k0
    have hT : w.heap.size ≤ w1.heap.size := B1.size
    clear hgb
    go_wp2_with fail
    go_loopg [4, 5] l.length (fun gk s4 s5 wr => PlaysAt l w1.heap.size w gk s4 s5 wr)
    case atStart => exact ⟨0, [], none, 0, by omega, rfl, rfl, by simp, by simp, Rows.nil _ _ _ _, (fun _ h => by cases h), by rw [e0]; exact k0⟩
    case round =>
      clear k0 e0
      obtain ⟨k, wl, Aw, cw, hk, rfl, rfl, hwl, hwf, hrw, hAT, kg⟩ := hrel
      have s1 := kg.i1.lt
      simp only at s1
      by_cases hlt : k < l.length
      · obtain ⟨x, hx⟩ : ∃ x, l[k]? = some x := ⟨_, List.getElem?_eq_getElem hlt⟩
        have hxf := hf x (List.mem_of_getElem? hx)
        have hxs := hsh x (List.mem_of_getElem? hx)
        obtain ⟨ad, rfl, hadl, a0, a1⟩ := h.at_ hx
        have a1' := a1 0
        have a2' := a1 1
        have a3' := a1 2
        have a0 := (kg.bw.cell (by rw [block_of_add]; exact hadl)).trans (a0 _ rfl)
        have a1 := (kg.bw.cell (by show (ad.add (k * 4)).block < _; rw [block_of_add]; exact hadl)).trans (a1' _ rfl)
        have a2 := (kg.bw.cell (by show (ad.add (k * 4)).block < _; rw [block_of_add]; exact hadl)).trans (a2' _ rfl)
        have a3 := (kg.bw.cell (by show (ad.add (k * 4)).block < _; rw [block_of_add]; exact hadl)).trans (a3' _ rfl)
        have hki : (k : Int) < (l.length : Int) := by omega
        have hok' : ∀ y ∈ keepL wl x, Kp.Fits y ∧ y.text.size ≤ 200 := fun y hy => by
          rcases keepL_mem wl x y hy with hy | rfl
          · exact hwf y hy
          · exact ⟨hxf, hxs⟩
        have hkl := keepL_len wl x
        have hLook := look_any (tabOf wl) x.client x.seq
        have hLook2 := fun W hW => refLook_any wl (by omega) x.client x.seq Aw cw W hW
        have hKeep := keep_any (tabOf wl) x.client ⟨x.seq, x.code, x.text⟩
        rw [keep_tab] at hKeep
        have hKeep2 := fun W hW => refKeep_any wl (by omega) x Aw cw W hW
        have hAl := fun W hW => alike_any wl (by omega) Aw cw W hW
        have hAl2 := fun A c W hW => alike_any (keepL wl x) (by omega) A c W hW
        have hBy := fun A c W hW => refBytes12_any (keepL wl x) (by omega) (fun c hc => tab_ok _ hok' c hc) A c W hW
        have hBL := tabB_len (tabOf (keepL wl x)) (fun c hc => tab_ok _ hok' c hc)
        have hPut := fun A c W hW => tabPut_any (tabOf (keepL wl x)) (fun c hc => tab_ok _ hok' c hc) [122] (by simp) A c W hW
        generalize lookN (tabOf wl) x.client x.seq = r at *
        obtain ⟨rc, rt, rq⟩ := r
        obtain ⟨wl', hwl'⟩ : ∃ wl', keepL wl x = wl' := ⟨_, rfl⟩
        simp only [hwl'] at hok' hkl hKeep hKeep2 hAl2 hBy hPut hBL
        obtain ⟨t', ht'⟩ : ∃ t', tabOf wl' = t' := ⟨_, rfl⟩
        simp only [ht'] at hKeep hAl2 hBy hPut hBL
        have HT' := Lib.hid ht'
        clear ht'
        generalize tabOf wl = t at *
        obtain ⟨xc, xs, xk, xt⟩ := x
        simp only at a0 a1 a2 a3 hLook hLook2 hKeep hKeep2
        unfold LookRet at hLook hLook2
        unfold KeepRet at hKeep2
        unfold RetStr at hBy
        unfold RetS at hPut
        unfold kpA at hKeep2
        unfold tabV tabC at hLook hKeep hAl hAl2 hPut
        unfold tabC at kg
        simp only at hLook hLook2
        have HH := Lib.hid (And.intro hLook (And.intro hLook2 (And.intro hKeep (And.intro hKeep2 (And.intro hAl (And.intro hAl2 (And.intro hBy hPut)))))))
        obtain ⟨t0, t1, t2, t3, t4, t5, t6, t7, t8, t9, t10, t11⟩ := kg.i1.c12
        have hne6 : ¬ w1.heap.size = wr.heap.size := by omega
        clear a1' a2' a3' hx hxf hxs hwl' hLook hLook2 hKeep hKeep2 hAl hAl2 hBy hPut
        go_wp2_with fail
        have kr : Kg [(w1.heap.size, 31, #[.int .u32 ((t 0).seq : Int), .int .u8 ((t 0).code : Int), .string (t 0).text, .int .u32 ((t 1).seq : Int), .int .u8 ((t 1).code : Int), .string (t 1).text, .int .u32 ((t 2).seq : Int), .int .u8 ((t 2).code : Int), .string (t 2).text, .int .u32 ((t 3).seq : Int), .int .u8 ((t 3).code : Int), .string (t 3).text])] wr wr := (Kg.refl wr).cons (a := (w1.heap.size, 31, #[.int .u32 ((t 0).seq : Int), .int .u8 ((t 0).code : Int), .string (t 0).text, .int .u32 ((t 1).seq : Int), .int .u8 ((t 1).code : Int), .string (t 1).text, .int .u32 ((t 2).seq : Int), .int .u8 ((t 2).code : Int), .string (t 2).text, .int .u32 ((t 3).seq : Int), .int .u8 ((t 3).code : Int), .string (t 3).text])) kg.i1
        have hbw := kg.bw
        clear kg
        refine (HH.out.1 _).mono ?_; rintro e w2 ⟨rfl, B2⟩
        have kr := (kr.new 33 #[.int .u8 (xc : Int), .int .u32 (xs : Int), .int .u8 (xk : Int), .string xt]).below B2
        clear t0 t1 t2 t3 t4 t5 t6 t7 t8 t9 t10 t11 a0 a1 a2 a3 B2 hne6
        obtain ⟨x0, x1, x2, x3⟩ := kr.i1.c4
        have z1 := kr.i1.lt
        have z2 := kr.i2.lt
        simp only at x0 x1 x2 x3 z1 z2
        have n1 : ¬ wr.heap.size = w2.heap.size := by omega
        have n2 : ¬ w1.heap.size = w2.heap.size := by omega
        go_wp2_with fail
        have kr := kr.new 27 #[.int .u8 (rc : Int), .string rt]
        refine (HH.out.2.1 _ (hrw.below kr.bw)).mono ?_; rintro e w3 ⟨rfl, B3⟩
        have kr := kr.below B3
        clear x0 x1 x2 x3 z1 z2 n1 n2 B3
        obtain ⟨x0, x1, x2, x3⟩ := kr.i2.c4
        obtain ⟨t0, t1, t2, t3, t4, t5, t6, t7, t8, t9, t10, t11⟩ := kr.i3.c12
        have z1 := kr.i2.lt
        have z2 := kr.i3.lt
        simp only at x0 x1 x2 x3 z1 z2
        have n1 : ¬ wr.heap.size = w3.heap.size := by omega
        have n2 : ¬ w1.heap.size = w3.heap.size := by omega
        go_wp2_with fail
        have kr := kr.new 27 #[.int .u8 (rc : Int), .string rt]
        refine (HH.out.2.2.1 _).mono ?_; rintro e w4 ⟨rfl, B4⟩
        have kr := kr.below B4
        clear x0 x1 x2 x3 z1 z2 n1 n2 B4 t0 t1 t2 t3 t4 t5 t6 t7 t8 t9 t10 t11
        obtain ⟨x0, x1, x2, x3⟩ := kr.i3.c4
        have z1 := kr.i3.lt
        simp only at x0 x1 x2 x3 z1
        have n1 : ¬ wr.heap.size = w4.heap.size := by omega
        go_wp2_with fail
        have kr := kr.new 31 #[.int .u32 ((t' 0).seq : Int), .int .u8 ((t' 0).code : Int), .string (t' 0).text, .int .u32 ((t' 1).seq : Int), .int .u8 ((t' 1).code : Int), .string (t' 1).text, .int .u32 ((t' 2).seq : Int), .int .u8 ((t' 2).code : Int), .string (t' 2).text, .int .u32 ((t' 3).seq : Int), .int .u8 ((t' 3).code : Int), .string (t' 3).text]
        refine (HH.out.2.2.2.1 _ (hrw.below kr.bw)).mono ?_; rintro e w5 ⟨A', c', rfl, hrw', hA', B5⟩
        have hAT' : ∀ ad, A' = some ad → ad.block ≠ w1.heap.size := fun ad h => by
          rcases hA' with e | hA'
          · exact hAT ad (e.symm.trans h)
          · have := hA' ad h
            simp at this
            omega
        have kr := kr.below B5
        clear x0 x1 x2 x3 z1 n1 B5
        have ks := Kg.refl w5
        have ad := add_str [122] (tabB t')
        have lt1 : ¬ (9223372036854775807 < 1 + (tabB t').length) := by omega
        have kc := fun (w : World) (C : Array Value) (n c : Nat) => Lib.run_convert_bytes_const (P := Try.prog) w 40 5 C n c Try.underlying40 Try.underlying5
        go_upto_region 13 with fail
        go_cut [85] (fun s85 wx => s85 = .bool false ∧ Kg [(w4.heap.size, 31, #[.int .u32 ((t' 0).seq : Int), .int .u8 ((t' 0).code : Int), .string (t' 0).text, .int .u32 ((t' 1).seq : Int), .int .u8 ((t' 1).code : Int), .string (t' 1).text, .int .u32 ((t' 2).seq : Int), .int .u8 ((t' 2).code : Int), .string (t' 2).text, .int .u32 ((t' 3).seq : Int), .int .u8 ((t' 3).code : Int), .string (t' 3).text]), (w1.heap.size, 31, #[.int .u32 ((t 0).seq : Int), .int .u8 ((t 0).code : Int), .string (t 0).text, .int .u32 ((t 1).seq : Int), .int .u8 ((t 1).code : Int), .string (t 1).text, .int .u32 ((t 2).seq : Int), .int .u8 ((t 2).code : Int), .string (t 2).text, .int .u32 ((t 3).seq : Int), .int .u8 ((t 3).code : Int), .string (t 3).text])] wr wx ∧ Kg [] w5 wx)
        case first =>
          have kr := kr.drew
          have ks := ks.drew
          go_region_held_law (fun W : World => ((W.cell? ⟨w2.heap.size, 0, none⟩ = some (.int .u8 (rc : Int)) ∧ W.cell? ⟨w2.heap.size, 1, none⟩ = some (.string rt)) ∧ (W.cell? ⟨w3.heap.size, 0, none⟩ = some (.int .u8 (rc : Int)) ∧ W.cell? ⟨w3.heap.size, 1, none⟩ = some (.string rt)) ∧ (W.cell? ⟨w4.heap.size, 0, none⟩ = some (.int .u32 ((t' 0).seq : Int)) ∧ W.cell? ⟨w4.heap.size, 1, none⟩ = some (.int .u8 ((t' 0).code : Int)) ∧ W.cell? ⟨w4.heap.size, 2, none⟩ = some (.string (t' 0).text) ∧ W.cell? ⟨w4.heap.size, 3, none⟩ = some (.int .u32 ((t' 1).seq : Int)) ∧ W.cell? ⟨w4.heap.size, 4, none⟩ = some (.int .u8 ((t' 1).code : Int)) ∧ W.cell? ⟨w4.heap.size, 5, none⟩ = some (.string (t' 1).text) ∧ W.cell? ⟨w4.heap.size, 6, none⟩ = some (.int .u32 ((t' 2).seq : Int)) ∧ W.cell? ⟨w4.heap.size, 7, none⟩ = some (.int .u8 ((t' 2).code : Int)) ∧ W.cell? ⟨w4.heap.size, 8, none⟩ = some (.string (t' 2).text) ∧ W.cell? ⟨w4.heap.size, 9, none⟩ = some (.int .u32 ((t' 3).seq : Int)) ∧ W.cell? ⟨w4.heap.size, 10, none⟩ = some (.int .u8 ((t' 3).code : Int)) ∧ W.cell? ⟨w4.heap.size, 11, none⟩ = some (.string (t' 3).text)) ∧ (W.cell? ⟨w1.heap.size, 0, none⟩ = some (.int .u32 ((t 0).seq : Int)) ∧ W.cell? ⟨w1.heap.size, 1, none⟩ = some (.int .u8 ((t 0).code : Int)) ∧ W.cell? ⟨w1.heap.size, 2, none⟩ = some (.string (t 0).text) ∧ W.cell? ⟨w1.heap.size, 3, none⟩ = some (.int .u32 ((t 1).seq : Int)) ∧ W.cell? ⟨w1.heap.size, 4, none⟩ = some (.int .u8 ((t 1).code : Int)) ∧ W.cell? ⟨w1.heap.size, 5, none⟩ = some (.string (t 1).text) ∧ W.cell? ⟨w1.heap.size, 6, none⟩ = some (.int .u32 ((t 2).seq : Int)) ∧ W.cell? ⟨w1.heap.size, 7, none⟩ = some (.int .u8 ((t 2).code : Int)) ∧ W.cell? ⟨w1.heap.size, 8, none⟩ = some (.string (t 2).text) ∧ W.cell? ⟨w1.heap.size, 9, none⟩ = some (.int .u32 ((t 3).seq : Int)) ∧ W.cell? ⟨w1.heap.size, 10, none⟩ = some (.int .u8 ((t 3).code : Int)) ∧ W.cell? ⟨w1.heap.size, 11, none⟩ = some (.string (t 3).text))))
            (first | exact ⟨⟨kr.i3.cell 0, kr.i3.cell 1⟩, ⟨kr.i2.cell 0, kr.i2.cell 1⟩, ⟨kr.i1.cell 0, kr.i1.cell 1, kr.i1.cell 2, kr.i1.cell 3, kr.i1.cell 4, kr.i1.cell 5, kr.i1.cell 6, kr.i1.cell 7, kr.i1.cell 8, kr.i1.cell 9, kr.i1.cell 10, kr.i1.cell 11⟩, ⟨kr.i5.cell 0, kr.i5.cell 1, kr.i5.cell 2, kr.i5.cell 3, kr.i5.cell 4, kr.i5.cell 5, kr.i5.cell 6, kr.i5.cell 7, kr.i5.cell 8, kr.i5.cell 9, kr.i5.cell 10, kr.i5.cell 11⟩⟩ | exact ⟨⟨(kr.alloc _).i3.cell 0, (kr.alloc _).i3.cell 1⟩, ⟨(kr.alloc _).i2.cell 0, (kr.alloc _).i2.cell 1⟩, ⟨(kr.alloc _).i1.cell 0, (kr.alloc _).i1.cell 1, (kr.alloc _).i1.cell 2, (kr.alloc _).i1.cell 3, (kr.alloc _).i1.cell 4, (kr.alloc _).i1.cell 5, (kr.alloc _).i1.cell 6, (kr.alloc _).i1.cell 7, (kr.alloc _).i1.cell 8, (kr.alloc _).i1.cell 9, (kr.alloc _).i1.cell 10, (kr.alloc _).i1.cell 11⟩, ⟨(kr.alloc _).i5.cell 0, (kr.alloc _).i5.cell 1, (kr.alloc _).i5.cell 2, (kr.alloc _).i5.cell 3, (kr.alloc _).i5.cell 4, (kr.alloc _).i5.cell 5, (kr.alloc _).i5.cell 6, (kr.alloc _).i5.cell 7, (kr.alloc _).i5.cell 8, (kr.alloc _).i5.cell 9, (kr.alloc _).i5.cell 10, (kr.alloc _).i5.cell 11⟩⟩)
            (first
              | (go_simp; go_at_call 21; (with_reducible refine (HH.out.2.2.2.2.2.1 A' c' _ (hrw'.below ks.bw)).mono ?_); rintro e w6 ⟨rfl, B6⟩; have kr := kr.below B6; have ks := ks.below B6; clear B6)
              | (go_simp; go_at_call 21; (with_reducible refine (HH.out.2.2.2.2.1 _ (hrw.below kr.bw)).mono ?_); rintro e w6 ⟨rfl, B6⟩; have kr := kr.below B6; have ks := ks.below B6; clear B6)
              | (go_simp; go_at_call 22; refine (HH.out.2.2.2.2.2.2.2 _ _ _ (one_reads_f (r := 122) _ (by decide) _)).mono ?_; rintro e w7 ⟨A7, c7, rfl, r7, B7⟩; have kr := (kr.alloc _).below B7; have ks := (ks.alloc _).below B7; clear B7)
              | (go_simp; go_at_call 23; refine (HH.out.2.2.2.2.2.2.1 A' c' _ (hrw'.below ks.bw)).mono ?_; rintro e w8 ⟨rfl, B8⟩; have kr := kr.below B8; have ks := ks.below B8)
              | (refine upon_conv Try.underlying40 Try.underlying5 Try.underlying9 r7 ?_)
              | (refine upon_conv Try.underlying40 Try.underlying5 Try.underlying9 (r7.below B8) ?_))
          all_goals
            go_wp2_with fail
            go_meet
            exact ⟨rfl, (kr.tail.tail.tail.tail).cons kr.i1, ks⟩
        case rest =>
          clear kr ks HH ad lt1
          obtain ⟨rfl, kr, ks⟩ := hcut
          obtain ⟨p0, p1, p2, p3, p4, p5, p6, p7, p8, p9, p10, p11⟩ := kr.i1.c12
          obtain ⟨t0, t1, t2, t3, t4, t5, t6, t7, t8, t9, t10, t11⟩ := kr.i2.c12
          obtain ⟨f0, f1, f2, f3, f4, f5, f6, f7, f8, f9, f10, f11⟩ := kr.i2.f12
          simp only at p0 p1 p2 p3 p4 p5 p6 p7 p8 p9 p10 p11 t0 t1 t2 t3 t4 t5 t6 t7 t8 t9 t10 t11 f0 f1 f2 f3 f4 f5 f6 f7 f8 f9 f10 f11
          have kw : Kg [(w1.heap.size, 31, #[.int .u32 ((t 0).seq : Int), .int .u8 ((t 0).code : Int), .string (t 0).text, .int .u32 ((t 1).seq : Int), .int .u8 ((t 1).code : Int), .string (t 1).text, .int .u32 ((t 2).seq : Int), .int .u8 ((t 2).code : Int), .string (t 2).text, .int .u32 ((t 3).seq : Int), .int .u8 ((t 3).code : Int), .string (t 3).text])] w wc := ⟨hbw.trans (kr.bw.mono hbw.size), fun p hp => kr.at_ p (List.mem_cons_of_mem _ hp)⟩
          have kz := kw.set12 (v0 := .int .u32 ((t' 0).seq : Int)) (v1 := .int .u8 ((t' 0).code : Int)) (v2 := .string (t' 0).text) (v3 := .int .u32 ((t' 1).seq : Int)) (v4 := .int .u8 ((t' 1).code : Int)) (v5 := .string (t' 1).text) (v6 := .int .u32 ((t' 2).seq : Int)) (v7 := .int .u8 ((t' 2).code : Int)) (v8 := .string (t' 2).text) (v9 := .int .u32 ((t' 3).seq : Int)) (v10 := .int .u8 ((t' 3).code : Int)) (v11 := .string (t' 3).text) (by simp) hT
          clear kw
          go_wp2_with fail
          go_roundg (l.length - (k + 1))
          case measure => omega
          case rel => exact ⟨k + 1, wl', A', c', by omega, by go_num, rfl, by omega, hok', (Rows.setCell (Rows.setCell (Rows.setCell (Rows.setCell (Rows.setCell (Rows.setCell (Rows.setCell (Rows.setCell (Rows.setCell (Rows.setCell (Rows.setCell (Rows.setCell (hrw'.below ks.bw) (p := ⟨w1.heap.size, 0, none⟩) hAT' (.int .u32 ((t' 0).seq : Int))) (p := ⟨w1.heap.size, 1, none⟩) hAT' (.int .u8 ((t' 0).code : Int))) (p := ⟨w1.heap.size, 2, none⟩) hAT' (.string (t' 0).text)) (p := ⟨w1.heap.size, 3, none⟩) hAT' (.int .u32 ((t' 1).seq : Int))) (p := ⟨w1.heap.size, 4, none⟩) hAT' (.int .u8 ((t' 1).code : Int))) (p := ⟨w1.heap.size, 5, none⟩) hAT' (.string (t' 1).text)) (p := ⟨w1.heap.size, 6, none⟩) hAT' (.int .u32 ((t' 2).seq : Int))) (p := ⟨w1.heap.size, 7, none⟩) hAT' (.int .u8 ((t' 2).code : Int))) (p := ⟨w1.heap.size, 8, none⟩) hAT' (.string (t' 2).text)) (p := ⟨w1.heap.size, 9, none⟩) hAT' (.int .u32 ((t' 3).seq : Int))) (p := ⟨w1.heap.size, 10, none⟩) hAT' (.int .u8 ((t' 3).code : Int))) (p := ⟨w1.heap.size, 11, none⟩) hAT' (.string (t' 3).text)), hAT', by rw [HT'.out]; unfold tabC; exact kz⟩
      · go_wp2_with fail
        refine (wakes12_any _).mono ?_; rintro e w2 ⟨rfl, B2⟩
        have kg := kg.below B2
        go_wp2
        go_ret
        exact ⟨rfl, kg.bw⟩
end Go.Proofs.Ytgbnaifjdfoahaa.Sess
