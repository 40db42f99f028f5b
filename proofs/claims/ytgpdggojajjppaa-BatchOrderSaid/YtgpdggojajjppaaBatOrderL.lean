/- The law BatchOrder walked. Conditions: the argument can be read. -/
import Derived.Test.YtgpdggojajjppaaBatDoneL
import Derived.Test.YtgpdggojajjppaaSeen
namespace Go.Proofs.Ytgpdggojajjppaa.Bat
open Go.RowKit Wire Cmd DrawInv

theorem own_keep {w w' : World} {B n : Nat} {u : Value} {xs : List Value} (h : w.ownsRow B 36 7 u n xs) (hk : ∀ r, u.ownBlock = some r → w'.heap[r]? = w.heap[r]?) : w'.ownsRow B 36 7 u n xs := by
  refine ⟨h.1, ?_⟩
  rcases h.2 with h' | ⟨g', cap, cur, rfl, hb, hh, rest⟩
  · exact .inl h'
  · exact .inr ⟨g', cap, cur, rfl, hb, (hk g' rfl).trans hh, rest⟩
/-- What was taken so far: a row of its own. -/
structure GotF (B : Nat) (w : World) (g : Nat) (v u : Value) (lg : List Cm) (A : Option Addr) (m : List Cm) : Prop where
  own : w.ownsRow B 36 7 u lg.length (lg.flatMap cmL)
  far : ∀ r, u.ownBlock = some r → Far w g v r
  ne : m ≠ [] → ∀ ad, A = some ad → ∀ r, u.ownBlock = some r → ad.block ≠ r
section
variable {B g : Nat} {m mq mq' lg : List Cm} {v v' u : Value} {w w0 w' : World} {A : Option Addr}
theorem GotF.step (h : GotF B w g v u lg A m) (s : QStep g v w v' w') : GotF B w' g v' u lg A m := ⟨own_keep h.own (fun r hr => s.heap (h.far r hr)), fun r hr => (h.far r hr).step s, h.ne⟩
theorem GotF.below (h : GotF B w g v u lg A m) (hb : Below w.heap.size w w') : GotF B w' g v u lg A m := ⟨own_keep h.own (fun r hr => hb.block r (h.far r hr).lt), fun r hr => (h.far r hr).below hb, h.ne⟩
theorem cut_block {n c : Nat} {ad : Addr} (e : cutA A n c = some ad) : ∃ a, A = some a ∧ a.block = ad.block := by
  unfold cutA at e
  split at e
  · exact ⟨ad, e, rfl⟩
  · cases A with
    | none => cases e
    | some a =>
      rw [Option.map_some] at e
      have e := Option.some.inj e
      exact ⟨a, rfl, by rw [← e, block_of_add]⟩
theorem GotF.cut (h : GotF B w g v u lg A m) (n c : Nat) : GotF B w g v u lg (cutA A n c) (m.drop n) := ⟨h.own, h.far, fun hn ad e r hr => by
  obtain ⟨a, ha, hb⟩ := cut_block e
  rw [← hb]
  exact h.ne (fun e' => hn (by rw [e']; simp)) a ha r hr⟩
/-- All that the law's loop carries. -/
structure OF (w0 : World) (B g : Nat) (mq m : List Cm) (v : Value) (A : Option Addr) (u : Value) (lg : List Cm) (w : World) : Prop where
  q : QS B g mq v w
  rf : RowsF w g v A m
  gf : GotF B w g v u lg A m
  bw : Below w0.heap.size w0 w
  hB : B ≤ w.heap.size
theorem OF.below (F : OF w0 B g mq m v A u lg w) (hb : Below w.heap.size w w') : OF w0 B g mq m v A u lg w' := ⟨F.q.below hb, F.rf.below hb, F.gf.below hb, F.bw.trans (hb.mono F.bw.size), Nat.le_trans F.hB hb.size⟩
theorem OF.step (F : OF w0 B g mq m v A u lg w) (hC : w0.heap.size ≤ B) (s : QStep g v w v' w') (q' : QS B g mq' v' w') : OF w0 B g mq' m v' A u lg w' := ⟨q', F.rf.step s, F.gf.step s, s.bw2 F.q F.bw hC F.hB, Nat.le_trans F.hB s.out.size⟩
theorem OF.cut (F : OF w0 B g mq m v A u lg w) {n c : Nat} (hn : n ≤ m.length) (hc : m.length ≤ c) : OF w0 B g mq (m.drop n) v (cutA A n c) u lg w := ⟨F.q, F.rf.cut hn hc, F.gf.cut n c, F.bw, F.hB⟩
/-- append(got, some...). -/
theorem OF.app (F : OF w0 B g mq m v A u lg w) (hC : w0.heap.size ≤ B) {u' : Value} {lg' : List Cm} (ho : w'.ownsRow B 36 7 u' lg'.length (lg'.flatMap cmL)) (hg : w.grownBy w' u.ownBlock) (hn : u'.ownBlock = u.ownBlock ∨ u'.ownBlock = some w.heap.size) : OF w0 B g mq m v A u' lg' w' := by
  have hO : Outs u.ownBlock.toList w w' := ⟨hg.os, hg.tape, hg.output, hg.size, fun k hk hn => hg.block k hk (fun e => hn (by rw [← e]; simp))⟩
  have hF : ∀ r ∈ u.ownBlock.toList, Far w g v r := fun r hr => F.gf.far r (by simpa using hr)
  refine ⟨F.q.outs hO hF, F.rf.outs hO (fun ad e hne hm => F.gf.ne hne ad e _ (by simpa using hm) rfl), ⟨ho, fun r hr => ?_, fun hne ad e r hr => ?_⟩, F.bw.trans (hO.below (Nat.le_trans hC F.hB) (fun r hr => Nat.le_trans hC (F.gf.own.lt r (by simpa using hr)).1)), Nat.le_trans F.hB hg.size⟩
  · rcases hn with h | h
    · exact (F.gf.far r (h.symm.trans hr)).outs hO
    · rw [h] at hr
      have hr := Option.some.inj hr
      exact far_new F.q (by omega) (ho.lt r (by rw [h, hr])).2
  · rcases hn with h | h
    · exact F.gf.ne hne ad e r (h.symm.trans hr)
    · rw [h] at hr
      have hr := Option.some.inj hr
      have := (F.rf.f hne ad e).lt
      omega
/-- want = a row of its own, new since w1. -/
theorem OF.want {w1 : World} (F : OF w0 B g mq m v A u lg w) (F1 : OF w0 B g mq m v A u lg w1) {x : Value} {m' : List Cm} (ho : w.ownsRow w1.heap.size 36 7 x m'.length (m'.flatMap cmL)) : ∃ A' c', x = .slice A' m'.length c' ∧ m'.length ≤ c' ∧ OF w0 B g mq m' v A' u lg w := by
  obtain ⟨A', c', hx, hc, hr, hbk⟩ := own_rows_at cmL_len (by omega) ho
  refine ⟨A', c', hx, hc, F.q, ⟨hr, fun hn ad e => ?_⟩, ⟨F.gf.own, F.gf.far, fun _ ad e r hr2 => ?_⟩, F.bw, F.hB⟩
  · have hlt : ad.block < w.heap.size := by
      cases m' with
      | nil => exact absurd rfl hn
      | cons y m' =>
        obtain ⟨ad', h1, h2, _⟩ := hr 0 y rfl
        rw [e] at h1
        cases h1
        exact h2
    have hge := hbk ad e
    have h1 := F1.q.hg.lt
    exact ⟨hlt, by omega, fun h => by have := (F1.q.ho.lt _ h).2; omega⟩
  · have hge := hbk ad e
    have := (F1.gf.far r hr2).lt
    omega
end
/-- The place of a client's command among the first i, the last one that fits. -/
def Last (m : List Cm) (k i : Nat) (was : Int) : Prop := (was = -1 ∧ ∀ j, j < i → ∀ c : Cm, m[j]? = some c → c.client ≠ k) ∨ ∃ (j : Nat) (c : Cm), was = (j : Int) ∧ j < i ∧ m[j]? = some c ∧ c.client = k
theorem last_yes {m : List Cm} {k i : Nat} {x : Cm} (hx : m[i]? = some x) (he : x.client = k) : Last m k (i + 1) (i : Int) := .inr ⟨i, x, rfl, by omega, hx, he⟩
theorem last_no {m : List Cm} {k i : Nat} {was : Int} {x : Cm} (h : Last m k i was) (hx : m[i]? = some x) (he : x.client ≠ k) : Last m k (i + 1) was := by
  rcases h with ⟨h1, h2⟩ | ⟨j, c, h1, h2, h3⟩
  · refine .inl ⟨h1, fun j hj c hc => ?_⟩
    rcases Nat.lt_or_ge j i with h | h
    · exact h2 j h c hc
    · obtain rfl : j = i := by omega
      rw [hx] at hc
      cases hc
      exact he
  · exact .inr ⟨j, c, h1, by omega, h3⟩
theorem last_end {m : List Cm} {k : Nat} {was : Int} (hu : Uniq m) (h : Last m k m.length was) : was = findI m k := by
  rcases h with ⟨h1, h2⟩ | ⟨j, c, h1, h2, h3, h4⟩
  · rw [h1, findI_none (find_isnone fun j c hc => h2 j (List.getElem?_eq_some_iff.1 hc).1 c hc)]
  · rw [h1, findI_some (find_is h3 h4 fun j' hj' c' hc' he => by
      have := uniq_at hu hc' h3 (by rw [he, h4])
      omega)]
theorem erase_succ {m : List Cm} {i j : Nat} {x : Cm} (hx : m[j]? = some x) : (m.take (j + 1)).eraseIdx i = if j = i then (m.take j).eraseIdx i else (m.take j).eraseIdx i ++ [x] := by
  have hj : j < m.length := (List.getElem?_eq_some_iff.1 hx).1
  have hlen : (m.take j).length = j := by rw [List.length_take]; omega
  rw [List.take_add_one, hx]
  show (m.take j ++ [x]).eraseIdx i = _
  split
  · rename_i h
    subst h
    rw [List.eraseIdx_append_of_length_le (by omega), hlen, Nat.sub_self, List.eraseIdx_of_length_le (l := m.take j) (by omega)]
    simp
  · rename_i h
    rcases Nat.lt_or_ge i j with hlt | hge
    · rw [List.eraseIdx_append_of_lt_length (by omega)]
    · rw [List.eraseIdx_append_of_length_le (by omega), hlen, List.eraseIdx_of_length_le (l := m.take j) (by omega), List.eraseIdx_of_length_le (by simp; omega)]
def Good (m : List Cm) : Prop := Uniq m ∧ ∀ x ∈ m, x.client < 4
theorem good_put {m : List Cm} (h : Good m) (c : Cm) : Good (putQ m c).1 := by
  refine ⟨uniq_put h.1 c, fun x hx => ?_⟩
  have key : ∀ y ∈ m ++ [c], mayB c = true → y.client < 4 := fun y hy hm => by
    rcases List.mem_append.1 hy with h' | h'
    · exact h.2 y h'
    · rw [List.mem_singleton.1 h']
      exact ((mayB_iff c).1 hm).2.1
  unfold putQ at hx
  split at hx
  · exact h.2 x hx
  · rename_i hm
    have hm : mayB c = true := by simpa using hm
    split at hx
    · exact key x hx hm
    · split at hx
      · exact h.2 x hx
      · split at hx
        · exact h.2 x hx
        · split at hx
          · exact h.2 x hx
          · refine key x ?_ hm
            rcases List.mem_append.1 hx with h' | h'
            · exact List.mem_append.2 (.inl (List.mem_of_mem_eraseIdx h'))
            · exact List.mem_append.2 (.inr h')
theorem good_drop {m : List Cm} (h : Good m) (n : Nat) : Good (m.drop n) := ⟨List.Nodup.sublist ((List.drop_sublist n m).map _) h.1, fun x hx => h.2 x (List.mem_of_mem_drop hx)⟩
theorem Lies.keep {w w' : World} {B : Nat} {u : Value} {m : List Cm} (h : Lies w B u m) (hk : ∀ r cs, u.ownBlock = some r → Blk w r 36 cs → Blk w' r 36 cs) : Lies w' B u m := by
  rcases h with h | ⟨r, c, cur, rfl, hb, hbk, hs, ht⟩
  · exact .inl h
  · exact .inr ⟨r, c, cur, rfl, hb, hk r cur rfl hbk, hs, ht⟩
set_option linter.unusedSimpArgs false in
set_option linter.unusedVariables false in
set_option maxRecDepth 100000 in
set_option maxHeartbeats 16000000 in
theorem border_any (l : List Ba) (ln : Nat) (hln : ln = l.length) (hQ : ∀ x ∈ l, x.Fits) (hl : ln ≤ 9223372036854775807) (A0 : Option Addr) (c0 : Nat) (w : World) (hA0 : Rows w A0 9 baC l) :
    Calls Try.prog 9 #[.slice A0 ln c0] w fun e w' => e = .returned (.bool true) ∧ Below w.heap.size w w' := by
  have HG := Lib.hid (fun W h => bgreat_any l ln hln hl A0 c0 W h)
  have HLN := Lib.hid hln
  clear hln
  go_enter Try.func9, Try.ntmps9
  go_wp2_with fail
  refine (HG.out w hA0).mono ?_; rintro e w1 ⟨he, B1⟩
  have bw := B1
  clear B1 HG
  cases he
  · go_wp2_with fail
    refine (wakes_any _).mono ?_; rintro e w2 ⟨rfl, B2⟩
    have bz := bw.trans (B2.mono bw.size)
    go_wp2_with fail
    go_ret
    exact ⟨rfl, bz⟩
  rename_i h200
  have H2 := Lib.hid h200
  clear h200
  go_wp2_with fail
  refine (new_q w1).mono ?_; rintro e w2 ⟨g, rfl, q0, B2⟩
  obtain ⟨B, hB⟩ : ∃ B, B = w1.heap.size := ⟨_, rfl⟩
  rw [← hB] at q0
  have HBB : Hid (w.heap.size ≤ B) := by show _ ≤ _; rw [hB]; exact bw.size
  have HBW : Hid (B ≤ w2.heap.size) := by show _ ≤ _; rw [hB]; exact B2.size
  have bw := bw.trans (B2.mono bw.size)
  clear hB B2
  have F0 : OF w B g [] [] (.slice none 0 0) none (.slice none 0 0) [] w2 := ⟨q0, RowsF.nil _ _ _ _, ⟨World.ownsRow_nil _ _ _ _, (fun r hr => by cases hr), (fun h => absurd rfl h)⟩, bw, HBW.out⟩
  clear q0 bw HBW
  go_wp2_with fail
  go_loopg [4, 5, 6] ln (fun gk v4 v5 v6 wr => ∃ (k n : Nat) (m : List Cm) (v : Value) (A : Option Addr) (c : Nat) (u : Value) (lg : List Cm), k + gk = ln ∧ v6 = .int .i64 (k : Int) ∧ v4 = .slice A n c ∧ u = v5 ∧ Hid (m.length = n) ∧ Hid (n ≤ c) ∧ Hid (lg.length + n ≤ k) ∧ Hid (Good m) ∧ OF w B g m m v A u lg wr)
  case atStart => exact ⟨0, 0, [], _, none, 0, _, [], by omega, rfl, rfl, rfl, rfl, Nat.le_refl _, Nat.le_refl _, ⟨List.nodup_nil, by simp⟩, F0⟩
  case round =>
    clear F0
    obtain ⟨k, n, m, v, A, c, u, lg, hk, rfl, rfl, rfl, HN, HNC, HLG, HGD, F⟩ := hrel
    have HM : Hid (n + lg.length ≤ 300) := by show _ ≤ _; have := HLG.out; have := H2.out; omega
    by_cases h4 : k < ln
    · have hk4 : (k : Int) < (ln : Int) := by omega
      obtain ⟨a0, ha⟩ : ∃ x, l[k]? = some x := ⟨_, List.getElem?_eq_getElem (by rw [← HLN.out]; exact h4)⟩
      have haf := hQ a0 (List.mem_of_getElem? ha)
      obtain ⟨ad0, rfl, hadl, z0, z1⟩ := hA0.at_ ha
      have hadb : (ad0.add (k * 9)).block < w.heap.size := by rw [block_of_add]; exact hadl
      obtain ⟨xd, xn, ⟨xa, xb, xk, xs, xt, xu, xz⟩⟩ := a0
      have HXN := Lib.hid haf.h2
      have HC := Lib.hid haf.h3
      have ld0 : wr.cell? (ad0.add (k * 9)) = some (.int .u8 (xd : Int)) := (F.bw.cell hadb).trans (z0 _ rfl)
      have ld1 : wr.cell? { block := (ad0.add (k * 9)).block, off := (ad0.add (k * 9)).off + 1 } = some (.int .i64 xn) := (F.bw.cell (by exact hadb)).trans (z1 0 _ rfl)
      have ld2 : wr.cell? { block := (ad0.add (k * 9)).block, off := (ad0.add (k * 9)).off + 2 } = some (.int .u8 (xa : Int)) := (F.bw.cell (by exact hadb)).trans (z1 1 _ rfl)
      have ld3 : wr.cell? { block := (ad0.add (k * 9)).block, off := (ad0.add (k * 9)).off + 3 } = some (.int .u32 (xb : Int)) := (F.bw.cell (by exact hadb)).trans (z1 2 _ rfl)
      have ld4 : wr.cell? { block := (ad0.add (k * 9)).block, off := (ad0.add (k * 9)).off + 4 } = some (.int .u8 (xk : Int)) := (F.bw.cell (by exact hadb)).trans (z1 3 _ rfl)
      have ld5 : wr.cell? { block := (ad0.add (k * 9)).block, off := (ad0.add (k * 9)).off + 5 } = some (.string ⟨xs.toArray⟩) := (F.bw.cell (by exact hadb)).trans (z1 4 _ rfl)
      have ld6 : wr.cell? { block := (ad0.add (k * 9)).block, off := (ad0.add (k * 9)).off + 6 } = some (.string ⟨xt.toArray⟩) := (F.bw.cell (by exact hadb)).trans (z1 5 _ rfl)
      have ld7 : wr.cell? { block := (ad0.add (k * 9)).block, off := (ad0.add (k * 9)).off + 7 } = some (.string ⟨xu.toArray⟩) := (F.bw.cell (by exact hadb)).trans (z1 6 _ rfl)
      have ld8 : wr.cell? { block := (ad0.add (k * 9)).block, off := (ad0.add (k * 9)).off + 8 } = some (.int .u8 (xz : Int)) := (F.bw.cell (by exact hadb)).trans (z1 7 _ rfl)
      have HA0 := Lib.hid hA0
      clear z0 z1 ha haf hA0
      have kn := Blk.new wr 73 #[.int .u8 0, .int .i64 0, .int .u8 0, .int .u32 0, .int .u8 0, .string ⟨#[]⟩, .string ⟨#[]⟩, .string ⟨#[]⟩, .int .u8 0]
      obtain ⟨wb, hst, F3, hb, fb⟩ : ∃ wb, (Instr.storeAt 73 (.pointer (some ⟨wr.heap.size, 0, none⟩)) (.agg #[.int .u8 (xd : Int), .int .i64 xn, .int .u8 (xa : Int), .int .u32 (xb : Int), .int .u8 (xk : Int), .string ⟨xs.toArray⟩, .string ⟨xt.toArray⟩, .string ⟨xu.toArray⟩, .int .u8 (xz : Int)])).run Try.prog (wr.alloc (.cells #[.int .u8 0, .int .i64 0, .int .u8 0, .int .u32 0, .int .u8 0, .string ⟨#[]⟩, .string ⟨#[]⟩, .string ⟨#[]⟩, .int .u8 0] 73)) = .ok () wb ∧ OF w B g m m v A u lg wb ∧ Blk wb wr.heap.size 73 #[.int .u8 (xd : Int), .int .i64 xn, .int .u8 (xa : Int), .int .u32 (xb : Int), .int .u8 (xk : Int), .string ⟨xs.toArray⟩, .string ⟨xt.toArray⟩, .string ⟨xu.toArray⟩, .int .u8 (xz : Int)] ∧ Far wb g v wr.heap.size := by
        have hB0 : Below wr.heap.size wr ((wr.alloc (.cells #[.int .u8 0, .int .i64 0, .int .u8 0, .int .u32 0, .int .u8 0, .string ⟨#[]⟩, .string ⟨#[]⟩, .string ⟨#[]⟩, .int .u8 0] 73)).setRow wr.heap.size #[.int .u8 (xd : Int), .int .i64 xn, .int .u8 (xa : Int), .int .u32 (xb : Int), .int .u8 (xk : Int), .string ⟨xs.toArray⟩, .string ⟨xt.toArray⟩, .string ⟨xu.toArray⟩, .int .u8 (xz : Int)]) := below_setRow ((Below.refl _ wr).alloc (Nat.le_refl _) _) (Nat.le_refl _)
        have kr : Blk ((wr.alloc (.cells #[.int .u8 0, .int .i64 0, .int .u8 0, .int .u32 0, .int .u8 0, .string ⟨#[]⟩, .string ⟨#[]⟩, .string ⟨#[]⟩, .int .u8 0] 73)).setRow wr.heap.size #[.int .u8 (xd : Int), .int .i64 xn, .int .u8 (xa : Int), .int .u32 (xb : Int), .int .u8 (xk : Int), .string ⟨xs.toArray⟩, .string ⟨xt.toArray⟩, .string ⟨xu.toArray⟩, .int .u8 (xz : Int)]) wr.heap.size 73 #[.int .u8 (xd : Int), .int .i64 xn, .int .u8 (xa : Int), .int .u32 (xb : Int), .int .u8 (xk : Int), .string ⟨xs.toArray⟩, .string ⟨xt.toArray⟩, .string ⟨xu.toArray⟩, .int .u8 (xz : Int)] := kn.setRow
        exact ⟨_, blk_store kn (by rfl) size_ba (by rfl), F.below hB0, kr, far_new F.q (Nat.le_refl _) kr.lt⟩
      clear kn
      go_upto_region 9 with (refine wpList_store (by rfl) (.tmp 7) (.tmp 30) (by rfl) (by rfl) (by rfl) hst ?_)
      obtain ⟨gb, hgb⟩ : ∃ gb, gb = wr.heap.size := ⟨_, rfl⟩
      rw [← hgb] at hb fb ⊢
      clear hst hgb F ld0 ld1 ld2 ld3 ld4 ld5 ld6 ld7 ld8
      have F := F3
      clear F3
      have y0 := hb.cell 0
      by_cases hd0 : xd = 0
      · subst hd0
        have y1 := hb.cell 1
        go_wp2_with fail
        refine (take_q F.q (by have := HM.out; have := HN.out; omega) xn HXN.out).mono ?_; rintro e w3 ⟨us, rfl, lu, v', uu, q', s, hub⟩
        obtain ⟨t, ht⟩ : ∃ t, t = takeN m xn := ⟨_, rfl⟩
        rw [← ht] at lu q'
        have htl : t ≤ m.length := by rw [ht]; exact takeN_le m xn
        have htn : t ≤ n := by rw [← HN.out]; exact htl
        obtain ⟨mv, hmin⟩ : ∃ mv, min xn (n : Int) = mv := ⟨_, rfl⟩
        have hmax : max 0 mv = (t : Int) := by
          rw [← hmin, ht]
          unfold takeN
          have := HN.out
          split <;> omega
        have hb := s.blk fb hb
        have F := F.step HBB.out s q'
        have HTL := Lib.hid htl
        have HHUB := Lib.hid hub
        clear s q' y0 y1 ht fb htl hub
        obtain ⟨A2, c2, hu, rr, hA2⟩ := lu.slice
        have hln : (m.take t).length = t := by rw [List.length_take]; have := HTL.out; omega
        rw [hln] at hu
        subst hu
        have HS := Lib.hid (same_self (m.take t) t hln (by have := HM.out; omega) A2 A c2 c w3 rr (rows_take F.rf.r t))
        have y1 := hb.cell 1
        have s1 : ∀ W, (Instr.slice 30 (.slice A n c) none (some (.int .i64 (t : Int))) none).run Try.prog W = .ok (.slice A t c) W := fun W => sl_to A n c t (by have := HNC.out; omega) W
        have s2 : ∀ W, (Instr.slice 30 (.slice A n c) (some (.int .i64 (t : Int))) none none).run Try.prog W = .ok (.slice (cutA A t c) (n - t) (c - t)) W := fun W => sl_from A n c t htn HNC.out W
        have hgt : ¬ (n : Int) < (t : Int) := by omega
        have hne : ((t : Int) != (t : Int)) = false := by simp
        have HLN3 := Lib.hid hln
        clear rr hA2 hln
        go_wp2_with fail
        refine HS.out.mono ?_; rintro e w4 ⟨rfl, B4⟩
        have lu := lu.below B4
        have F := F.below B4
        clear B4 HS y1 hb s1 hmin hmax hgt hne
        obtain ⟨A3, c3, hu3, rr, _⟩ := lu.slice
        rw [HLN3.out] at hu3
        cases hu3
        obtain ⟨u', w5, happ, ho5, hg5, hor⟩ := app_any (base := B) F.hB F.gf.own rr (c := c2) (by rw [HLN3.out]; have := HM.out; omega) 30
        rw [HLN3.out] at happ
        have F := (F.app HBB.out ho5 hg5 hor).cut (c := c) HTL.out (by rw [HN.out]; exact HNC.out)
        clear ho5 hg5 hor rr lu uu
        go_wp2_with (refine wpList_run_append (by rfl) (.tmp 63) (.tmp 64) 30 (by rfl) (by rfl) (by rfl) happ ?_)
        clear happ
        have HF := Lib.hid F
        clear F
        go_roundg (ln - (k + 1))
        case measure => omega
        case rel => exact ⟨k + 1, n - t, m.drop t, v', cutA A t c, c - t, u', lg ++ m.take t, by omega, by go_num, rfl, rfl, (by show _ = _; rw [List.length_drop, HN.out]), (by show _ ≤ _; have := HNC.out; omega), (by show _ ≤ _; rw [List.length_append, HLN3.out]; have := HLG.out; omega), good_drop HGD.out t, HF.out⟩
      · have hn0 : ((xd : Int) == 0) = false := beq_eq_false_iff_ne.2 (by omega)
        have HW := Lib.hid F
        have hn3 : n ≤ 300 := by have := HM.out; omega
        go_wp2_with fail
        clear y0
        go_loopg [9, 10] n (fun gk v9 v10 wz => ∃ (i : Nat) (was : Int), i + gk = n ∧ v10 = .int .i64 (i : Int) ∧ v9 = .int .i64 was ∧ Hid (Last m xa i was) ∧ Below wb.heap.size wb wz)
        case atStart => exact ⟨0, -1, by omega, rfl, rfl, .inl ⟨rfl, fun j hj => by omega⟩, Below.refl _ _⟩
        case round =>
          obtain ⟨i, was, hi, rfl, rfl, HLA, bz⟩ := hrel
          by_cases h5 : i < n
          · have hk5 : (i : Int) < (n : Int) := by omega
            obtain ⟨x, hx⟩ : ∃ x, m[i]? = some x := ⟨_, List.getElem?_eq_getElem (by rw [HN.out]; exact h5)⟩
            obtain ⟨ad, rfl, hadl, z0, _⟩ := HW.out.rf.r.at_ hx
            have hadb : (ad.add (i * 7)).block < wb.heap.size := by rw [block_of_add]; exact hadl
            have c0d : wr.drew.cell? (ad.add (i * 7)) = some (.int .u8 (x.client : Int)) := (bz.cell hadb).trans (z0 _ rfl)
            have b0 : (ad.add (i * 7)).block < wr.drew.heap.size := Nat.lt_of_lt_of_le hadb bz.size
            have hbd0 := hb.below bz hb.lt
            have hbd : Blk wr.drew gb 73 #[.int .u8 (xd : Int), .int .i64 xn, .int .u8 (xa : Int), .int .u32 (xb : Int), .int .u8 (xk : Int), .string ⟨xs.toArray⟩, .string ⟨xt.toArray⟩, .string ⟨xu.toArray⟩, .int .u8 (xz : Int)] := hbd0
            clear hbd0
            have HX := Lib.hid hx
            clear z0 hx
            obtain ⟨xc, hxc⟩ : ∃ xc, xc = x.client := ⟨_, rfl⟩
            rw [← hxc] at c0d
            by_cases hq : xc = xa
            · have HLA2 : Hid (Last m xa (i + 1) (i : Int)) := last_yes HX.out (by rw [← hxc, hq])
              have e1 : ((xc : Int) == (xa : Int)) = true := by rw [hq]; simp
              clear hq HLA hxc
              go_upto_region 19 with fail
              refine region_inv2 (by kernel_rfl) [] [(76, .slice (some ad) n c), (77, .int .i64 (i : Int)), (78, .pointer (some (ad.add (i * 7)))), (79, .pointer (some (ad.add (i * 7)))), (80, .int .u8 (xc : Int)), (81, .pointer (some ⟨gb, 2, none⟩)), (82, .pointer (some ⟨gb, 2, none⟩)), (83, .int .u8 (xa : Int)), (84, .bool true)] (by kernel_rfl) (by kernel_rfl) rfl (by kernel_rfl) ?_ ?_ ?_
              · intro q hq; cases hq
              · refine And.intro ?_ ?_
                · intro d hd ρ W hcs bw hn hg
                  cases hd
                  have e4 : ρ (.tmp 4) = .slice (some ad) n c := hn 4 (by decide)
                  clear hn hg
                  refine .inl ⟨trivial, ?_⟩
                  refine .inl ⟨_, W, rfl, e4, Below.refl _ _⟩
                refine And.intro ?_ ?_
                · intro d hd ρ W hcs bw hn hg
                  cases hd
                  have e10 : ρ (.tmp 10) = .int .i64 (i : Int) := hn 10 (by decide)
                  clear hn hg
                  refine .inl ⟨trivial, ?_⟩
                  refine .inl ⟨_, W, rfl, e10, Below.refl _ _⟩
                refine And.intro ?_ ?_
                · intro d hd ρ W hcs bw hn hg
                  cases hd
                  have e76 : ρ (.tmp 76) = .slice (some ad) n c := hn 76 (by decide)
                  have e77 : ρ (.tmp 77) = .int .i64 (i : Int) := hn 77 (by decide)
                  clear hn hg
                  refine .inl ⟨trivial, ?_⟩
                  refine .inl ⟨.pointer (some (ad.add (i * 7))), W, ?_, rfl, Below.refl _ _⟩
                  go_simp
                refine And.intro ?_ ?_
                · intro d hd ρ W hcs bw hn hg
                  cases hd
                  have e78 : ρ (.tmp 78) = .pointer (some (ad.add (i * 7))) := hn 78 (by decide)
                  clear hn hg
                  refine .inl ⟨trivial, ?_⟩
                  refine .inl ⟨.pointer (some (ad.add (i * 7))), W, ?_, rfl, Below.refl _ _⟩
                  go_simp
                refine And.intro ?_ ?_
                · intro d hd ρ W hcs bw hn hg
                  cases hd
                  have e79 : ρ (.tmp 79) = .pointer (some (ad.add (i * 7))) := hn 79 (by decide)
                  clear hn hg
                  refine .inl ⟨trivial, ?_⟩
                  have z0 : W.cell? (ad.add (i * 7)) = some (.int .u8 (xc : Int)) := (bw.cell (by exact b0)).trans c0d
                  refine .inl ⟨.int .u8 (xc : Int), W, ?_, rfl, Below.refl _ _⟩
                  go_simp
                refine And.intro ?_ ?_
                · intro d hd ρ W hcs bw hn hg
                  cases hd
                  have e7 : ρ (.tmp 7) = .pointer (some ⟨gb, 0, none⟩) := hn 7 (by decide)
                  clear hn hg
                  refine .inl ⟨trivial, ?_⟩
                  refine .inl ⟨.pointer (some ⟨gb, 2, none⟩), W, ?_, rfl, Below.refl _ _⟩
                  go_simp
                refine And.intro ?_ ?_
                · intro d hd ρ W hcs bw hn hg
                  cases hd
                  have e81 : ρ (.tmp 81) = .pointer (some ⟨gb, 2, none⟩) := hn 81 (by decide)
                  clear hn hg
                  refine .inl ⟨trivial, ?_⟩
                  refine .inl ⟨.pointer (some ⟨gb, 2, none⟩), W, ?_, rfl, Below.refl _ _⟩
                  go_simp
                refine And.intro ?_ ?_
                · intro d hd ρ W hcs bw hn hg
                  cases hd
                  have e82 : ρ (.tmp 82) = .pointer (some ⟨gb, 2, none⟩) := hn 82 (by decide)
                  clear hn hg
                  refine .inl ⟨trivial, ?_⟩
                  have z0 : W.cell? ⟨gb, 2, none⟩ = some (.int .u8 (xa : Int)) := (Blk.below hbd bw (Blk.lt hbd)).cell 2
                  refine .inl ⟨.int .u8 (xa : Int), W, ?_, rfl, Below.refl _ _⟩
                  go_simp
                refine And.intro ?_ ?_
                · intro d hd ρ W hcs bw hn hg
                  cases hd
                  have e80 : ρ (.tmp 80) = .int .u8 (xc : Int) := hn 80 (by decide)
                  have e83 : ρ (.tmp 83) = .int .u8 (xa : Int) := hn 83 (by decide)
                  clear hn hg
                  refine .inl ⟨trivial, ?_⟩
                  refine .inl ⟨.bool true, W, ?_, rfl, Below.refl _ _⟩
                  go_simp
                trivial
              · intro a' w' hsz hdf hb hVs
                have q84 : a'.eval (.tmp 84) = .bool true := hVs 84
                have ha := slot_over_seg 76 9 [] rfl (by kernel_rfl) (of_decide_eq_true (by kernel_rfl)) hsz hdf hVs
                clear hVs hsz hdf
                rw [show List.range' 76 9 = [76, 77, 78, 79, 80, 81, 82, 83, 84] from rfl] at ha
                simp only [List.take_succ_cons, List.take_zero, List.drop_succ_cons, List.drop_zero, List.map_cons, List.map_nil, List.cons_append, List.nil_append, List.foldl_cons, List.foldl_nil, List.set_cons_zero, List.set_cons_succ, q84] at ha
                clear q84
                generalize a'.eval (.tmp 76) = x76 at ha
                generalize a'.eval (.tmp 77) = x77 at ha
                generalize a'.eval (.tmp 78) = x78 at ha
                generalize a'.eval (.tmp 79) = x79 at ha
                generalize a'.eval (.tmp 80) = x80 at ha
                generalize a'.eval (.tmp 81) = x81 at ha
                generalize a'.eval (.tmp 82) = x82 at ha
                generalize a'.eval (.tmp 83) = x83 at ha
                subst ha
                have bz := bz.drew.trans (hb.mono bz.drew.size)
                clear hb c0d hbd
                go_wp2_with fail
                go_roundg (n - (i + 1))
                case measure => omega
                case rel => exact ⟨i + 1, (i : Int), by omega, by go_num, rfl, HLA2, bz⟩
            · have HLA2 : Hid (Last m xa (i + 1) was) := last_no HLA.out HX.out (by rw [← hxc]; exact hq)
              have e1 : ((xc : Int) == (xa : Int)) = false := beq_eq_false_iff_ne.2 (by omega)
              clear hq HLA hxc
              go_upto_region 19 with fail
              refine region_inv2 (by kernel_rfl) [] [(76, .slice (some ad) n c), (77, .int .i64 (i : Int)), (78, .pointer (some (ad.add (i * 7)))), (79, .pointer (some (ad.add (i * 7)))), (80, .int .u8 (xc : Int)), (81, .pointer (some ⟨gb, 2, none⟩)), (82, .pointer (some ⟨gb, 2, none⟩)), (83, .int .u8 (xa : Int)), (84, .bool false)] (by kernel_rfl) (by kernel_rfl) rfl (by kernel_rfl) ?_ ?_ ?_
              · intro q hq; cases hq
              · refine And.intro ?_ ?_
                · intro d hd ρ W hcs bw hn hg
                  cases hd
                  have e4 : ρ (.tmp 4) = .slice (some ad) n c := hn 4 (by decide)
                  clear hn hg
                  refine .inl ⟨trivial, ?_⟩
                  refine .inl ⟨_, W, rfl, e4, Below.refl _ _⟩
                refine And.intro ?_ ?_
                · intro d hd ρ W hcs bw hn hg
                  cases hd
                  have e10 : ρ (.tmp 10) = .int .i64 (i : Int) := hn 10 (by decide)
                  clear hn hg
                  refine .inl ⟨trivial, ?_⟩
                  refine .inl ⟨_, W, rfl, e10, Below.refl _ _⟩
                refine And.intro ?_ ?_
                · intro d hd ρ W hcs bw hn hg
                  cases hd
                  have e76 : ρ (.tmp 76) = .slice (some ad) n c := hn 76 (by decide)
                  have e77 : ρ (.tmp 77) = .int .i64 (i : Int) := hn 77 (by decide)
                  clear hn hg
                  refine .inl ⟨trivial, ?_⟩
                  refine .inl ⟨.pointer (some (ad.add (i * 7))), W, ?_, rfl, Below.refl _ _⟩
                  go_simp
                refine And.intro ?_ ?_
                · intro d hd ρ W hcs bw hn hg
                  cases hd
                  have e78 : ρ (.tmp 78) = .pointer (some (ad.add (i * 7))) := hn 78 (by decide)
                  clear hn hg
                  refine .inl ⟨trivial, ?_⟩
                  refine .inl ⟨.pointer (some (ad.add (i * 7))), W, ?_, rfl, Below.refl _ _⟩
                  go_simp
                refine And.intro ?_ ?_
                · intro d hd ρ W hcs bw hn hg
                  cases hd
                  have e79 : ρ (.tmp 79) = .pointer (some (ad.add (i * 7))) := hn 79 (by decide)
                  clear hn hg
                  refine .inl ⟨trivial, ?_⟩
                  have z0 : W.cell? (ad.add (i * 7)) = some (.int .u8 (xc : Int)) := (bw.cell (by exact b0)).trans c0d
                  refine .inl ⟨.int .u8 (xc : Int), W, ?_, rfl, Below.refl _ _⟩
                  go_simp
                refine And.intro ?_ ?_
                · intro d hd ρ W hcs bw hn hg
                  cases hd
                  have e7 : ρ (.tmp 7) = .pointer (some ⟨gb, 0, none⟩) := hn 7 (by decide)
                  clear hn hg
                  refine .inl ⟨trivial, ?_⟩
                  refine .inl ⟨.pointer (some ⟨gb, 2, none⟩), W, ?_, rfl, Below.refl _ _⟩
                  go_simp
                refine And.intro ?_ ?_
                · intro d hd ρ W hcs bw hn hg
                  cases hd
                  have e81 : ρ (.tmp 81) = .pointer (some ⟨gb, 2, none⟩) := hn 81 (by decide)
                  clear hn hg
                  refine .inl ⟨trivial, ?_⟩
                  refine .inl ⟨.pointer (some ⟨gb, 2, none⟩), W, ?_, rfl, Below.refl _ _⟩
                  go_simp
                refine And.intro ?_ ?_
                · intro d hd ρ W hcs bw hn hg
                  cases hd
                  have e82 : ρ (.tmp 82) = .pointer (some ⟨gb, 2, none⟩) := hn 82 (by decide)
                  clear hn hg
                  refine .inl ⟨trivial, ?_⟩
                  have z0 : W.cell? ⟨gb, 2, none⟩ = some (.int .u8 (xa : Int)) := (Blk.below hbd bw (Blk.lt hbd)).cell 2
                  refine .inl ⟨.int .u8 (xa : Int), W, ?_, rfl, Below.refl _ _⟩
                  go_simp
                refine And.intro ?_ ?_
                · intro d hd ρ W hcs bw hn hg
                  cases hd
                  have e80 : ρ (.tmp 80) = .int .u8 (xc : Int) := hn 80 (by decide)
                  have e83 : ρ (.tmp 83) = .int .u8 (xa : Int) := hn 83 (by decide)
                  clear hn hg
                  refine .inl ⟨trivial, ?_⟩
                  refine .inl ⟨.bool false, W, ?_, rfl, Below.refl _ _⟩
                  go_simp
                trivial
              · intro a' w' hsz hdf hb hVs
                have q84 : a'.eval (.tmp 84) = .bool false := hVs 84
                have ha := slot_over_seg 76 9 [] rfl (by kernel_rfl) (of_decide_eq_true (by kernel_rfl)) hsz hdf hVs
                clear hVs hsz hdf
                rw [show List.range' 76 9 = [76, 77, 78, 79, 80, 81, 82, 83, 84] from rfl] at ha
                simp only [List.take_succ_cons, List.take_zero, List.drop_succ_cons, List.drop_zero, List.map_cons, List.map_nil, List.cons_append, List.nil_append, List.foldl_cons, List.foldl_nil, List.set_cons_zero, List.set_cons_succ, q84] at ha
                clear q84
                generalize a'.eval (.tmp 76) = x76 at ha
                generalize a'.eval (.tmp 77) = x77 at ha
                generalize a'.eval (.tmp 78) = x78 at ha
                generalize a'.eval (.tmp 79) = x79 at ha
                generalize a'.eval (.tmp 80) = x80 at ha
                generalize a'.eval (.tmp 81) = x81 at ha
                generalize a'.eval (.tmp 82) = x82 at ha
                generalize a'.eval (.tmp 83) = x83 at ha
                subst ha
                have bz := bz.drew.trans (hb.mono bz.drew.size)
                clear hb c0d hbd
                go_wp2_with fail
                go_roundg (n - (i + 1))
                case measure => omega
                case rel => exact ⟨i + 1, was, by omega, by go_num, rfl, HLA2, bz⟩
          · have hk5 : ¬ (i : Int) < (n : Int) := by omega
            obtain rfl : n = i := by omega
            have HWAS : Hid (was = findI m xa) := last_end HGD.out.1 (by have h := HLA.out; rwa [← HN.out] at h)
            have F := HW.out.below bz
            have hb := hb.below bz hb.lt
            have fb := fb.below bz
            obtain ⟨wp, hwp⟩ : ∃ wp : World, wp = wr := ⟨_, rfl⟩
            rw [← hwp] at F hb fb ⊢
            clear HLA hwp HW bz
            have hput : putQ m ⟨xa, xb, xk, xs, xt, xu, xz⟩ = if mayB ⟨xa, xb, xk, xs, xt, xu, xz⟩ = false then (m, 2) else match findN m xa with
              | none => (m ++ [⟨xa, xb, xk, xs, xt, xu, xz⟩], 0)
              | some i => match m[i]? with
                | none => (m, 0)
                | some d => if xb < d.seq then (m, 12) else if d.seq = xb then (m, 0) else (m.eraseIdx i ++ [⟨xa, xb, xk, xs, xt, xu, xz⟩], 0) := rfl
            have hgd2 := good_put HGD.out ⟨xa, xb, xk, xs, xt, xu, xz⟩
            have HP := Lib.hid (put_q F.q F.hB (by have := HM.out; have := HN.out; omega) ⟨xa, xb, xk, xs, xt, xu, xz⟩ HC.out)
            obtain ⟨res, hres⟩ : ∃ p, p = putQ m ⟨xa, xb, xk, xs, xt, xu, xz⟩ := ⟨_, rfl⟩
            rw [← hres] at hput HP hgd2
            unfold cmV cmC at HP
            dsimp only at HP
            have y2 := hb.cell 2
            have y3 := hb.cell 3
            have y4 := hb.cell 4
            have y5 := hb.cell 5
            have y6 := hb.cell 6
            have y7 := hb.cell 7
            have y8 := hb.cell 8
            cases hmb : mayB ⟨xa, xb, xk, xs, xt, xu, xz⟩
            · rw [hmb, if_pos rfl] at hput
              subst hput
              clear hmb
              go_wp2_with fail
              refine HP.out.mono ?_; rintro e w4 ⟨rfl, v', q', s⟩
              have F := F.step HBB.out s q'
              have hb := s.blk fb hb
              clear y2 y3 y4 y5 y6 y7 y8 HP s q' fb
              go_upto_region 22 with fail
              have hbd : Blk w4.drew gb 73 #[.int .u8 (xd : Int), .int .i64 xn, .int .u8 (xa : Int), .int .u32 (xb : Int), .int .u8 (xk : Int), .string ⟨xs.toArray⟩, .string ⟨xt.toArray⟩, .string ⟨xu.toArray⟩, .int .u8 (xz : Int)] := hb
              have FD : OF w B g _ _ _ _ _ _ w4.drew := F.below (below_drewN (Below.refl _ _) 1)
              clear hb F
              refine region_inv2 (by kernel_rfl) [] [(90, .int .i64 2), (91, .bool false), (92, .bool false), (93, undef), (94, undef), (95, undef), (96, undef), (97, undef), (98, undef), (99, undef), (100, undef), (101, undef), (102, undef), (103, undef), (104, undef), (105, undef), (106, .bool false), (107, .bool false), (108, .int .i64 2), (109, .bool false), (110, .bool false), (111, undef), (112, undef), (113, .bool false), (114, .bool false), (115, undef), (116, undef), (117, undef), (118, undef), (119, undef), (120, undef), (121, undef), (122, undef), (123, undef), (124, .bool false), (125, .bool false)] (by kernel_rfl) (by kernel_rfl) rfl (by kernel_rfl) ?_ ?_ ?_
              · intro q hq; cases hq
              · refine And.intro ?_ ?_
                · intro d hd ρ W hcs bw hn hg
                  cases hd
                  have e11 : ρ (.tmp 11) = .int .i64 2 := hn 11 (by decide)
                  clear hn hg
                  refine .inl ⟨trivial, ?_⟩
                  refine .inl ⟨_, W, rfl, e11, Below.refl _ _⟩
                refine And.intro ?_ ?_
                · intro d hd ρ W hcs bw hn hg
                  cases hd
                  have e90 : ρ (.tmp 90) = .int .i64 2 := hn 90 (by decide)
                  clear hn hg
                  refine .inl ⟨trivial, ?_⟩
                  have hc1 := hcs.1
                  refine .inl ⟨.bool false, W, ?_, rfl, Below.refl _ _⟩
                  go_simp
                refine And.intro ?_ ?_
                · intro d hd ρ W hcs bw hn hg
                  cases hd
                  have e91 : ρ (.tmp 91) = .bool false := hn 91 (by decide)
                  clear hn hg
                  refine .inl ⟨trivial, ?_⟩
                  refine .inl ⟨_, W, rfl, e91, Below.refl _ _⟩
                refine And.intro ?_ ?_
                · intro d hd ρ W hcs bw hn hg
                  cases hd
                  have eg : ρ (.tmp 92) = .bool false := hg _ _ _ _ rfl rfl rfl
                  exact .inr ⟨⟨_, _, _, rfl, rfl, eg, nofun⟩, rfl⟩
                refine And.intro ?_ ?_
                · intro d hd ρ W hcs bw hn hg
                  cases hd
                  have eg : ρ (.tmp 92) = .bool false := hg _ _ _ _ rfl rfl rfl
                  exact .inr ⟨⟨_, _, _, rfl, rfl, eg, nofun⟩, rfl⟩
                refine And.intro ?_ ?_
                · intro d hd ρ W hcs bw hn hg
                  cases hd
                  have eg : ρ (.tmp 92) = .bool false := hg _ _ _ _ rfl rfl rfl
                  exact .inr ⟨⟨_, _, _, rfl, rfl, eg, nofun⟩, rfl⟩
                refine And.intro ?_ ?_
                · intro d hd ρ W hcs bw hn hg
                  cases hd
                  have eg : ρ (.tmp 95) = undef := hg _ _ _ _ rfl rfl rfl
                  exact .inr ⟨⟨_, _, _, rfl, rfl, eg, nofun⟩, rfl⟩
                refine And.intro ?_ ?_
                · intro d hd ρ W hcs bw hn hg
                  cases hd
                  have eg : ρ (.tmp 95) = undef := hg _ _ _ _ rfl rfl rfl
                  exact .inr ⟨⟨_, _, _, rfl, rfl, eg, nofun⟩, rfl⟩
                refine And.intro ?_ ?_
                · intro d hd ρ W hcs bw hn hg
                  cases hd
                  have eg : ρ (.tmp 95) = undef := hg _ _ _ _ rfl rfl rfl
                  exact .inr ⟨⟨_, _, _, rfl, rfl, eg, nofun⟩, rfl⟩
                refine And.intro ?_ ?_
                · intro d hd ρ W hcs bw hn hg
                  cases hd
                  have eg : ρ (.tmp 95) = undef := hg _ _ _ _ rfl rfl rfl
                  exact .inr ⟨⟨_, _, _, rfl, rfl, eg, nofun⟩, rfl⟩
                refine And.intro ?_ ?_
                · intro d hd ρ W hcs bw hn hg
                  cases hd
                  have eg : ρ (.tmp 95) = undef := hg _ _ _ _ rfl rfl rfl
                  exact .inr ⟨⟨_, _, _, rfl, rfl, eg, nofun⟩, rfl⟩
                refine And.intro ?_ ?_
                · intro d hd ρ W hcs bw hn hg
                  cases hd
                  have eg : ρ (.tmp 95) = undef := hg _ _ _ _ rfl rfl rfl
                  exact .inr ⟨⟨_, _, _, rfl, rfl, eg, nofun⟩, rfl⟩
                refine And.intro ?_ ?_
                · intro d hd ρ W hcs bw hn hg
                  cases hd
                  have eg : ρ (.tmp 95) = undef := hg _ _ _ _ rfl rfl rfl
                  exact .inr ⟨⟨_, _, _, rfl, rfl, eg, nofun⟩, rfl⟩
                refine And.intro ?_ ?_
                · intro d hd ρ W hcs bw hn hg
                  cases hd
                  have eg : ρ (.tmp 95) = undef := hg _ _ _ _ rfl rfl rfl
                  exact .inr ⟨⟨_, _, _, rfl, rfl, eg, nofun⟩, rfl⟩
                refine And.intro ?_ ?_
                · intro d hd ρ W hcs bw hn hg
                  cases hd
                  have eg : ρ (.tmp 95) = undef := hg _ _ _ _ rfl rfl rfl
                  exact .inr ⟨⟨_, _, _, rfl, rfl, eg, nofun⟩, rfl⟩
                refine And.intro ?_ ?_
                · intro d hd ρ W hcs bw hn hg
                  cases hd
                  have eg : ρ (.tmp 92) = .bool false := hg _ _ _ _ rfl rfl rfl
                  exact .inr ⟨⟨_, _, _, rfl, rfl, eg, nofun⟩, rfl⟩
                refine And.intro ?_ ?_
                · intro d hd ρ W hcs bw hn hg
                  cases hd
                  have e92 : ρ (.tmp 92) = .bool false := hn 92 (by decide)
                  have e105 : ρ (.tmp 105) = undef := hn 105 (by decide)
                  clear hn hg
                  refine .inl ⟨trivial, ?_⟩
                  have hc1 := hcs.1
                  refine .inl ⟨.bool false, W, ?_, rfl, Below.refl _ _⟩
                  go_simp
                refine And.intro ?_ ?_
                · intro d hd ρ W hcs bw hn hg
                  cases hd
                  have e106 : ρ (.tmp 106) = .bool false := hn 106 (by decide)
                  clear hn hg
                  refine .inl ⟨trivial, ?_⟩
                  refine .inl ⟨_, W, rfl, e106, Below.refl _ _⟩
                refine And.intro ?_ ?_
                · intro d hd ρ W hcs bw hn hg
                  cases hd
                  have eg : ρ (.tmp 107) = .bool false := hg _ _ _ _ rfl rfl rfl
                  have e11 : ρ (.tmp 11) = .int .i64 2 := hn 11 (by decide)
                  clear hn hg
                  refine .inl ⟨⟨_, _, rfl, rfl, eg⟩, ?_⟩
                  refine .inl ⟨_, W, rfl, e11, Below.refl _ _⟩
                refine And.intro ?_ ?_
                · intro d hd ρ W hcs bw hn hg
                  cases hd
                  have eg : ρ (.tmp 107) = .bool false := hg _ _ _ _ rfl rfl rfl
                  have e108 : ρ (.tmp 108) = .int .i64 2 := hn 108 (by decide)
                  clear hn hg
                  refine .inl ⟨⟨_, _, rfl, rfl, eg⟩, ?_⟩
                  have hc1 := hcs.1
                  refine .inl ⟨.bool false, W, ?_, rfl, Below.refl _ _⟩
                  go_simp
                refine And.intro ?_ ?_
                · intro d hd ρ W hcs bw hn hg
                  cases hd
                  have eg : ρ (.tmp 107) = .bool false := hg _ _ _ _ rfl rfl rfl
                  have e109 : ρ (.tmp 109) = .bool false := hn 109 (by decide)
                  clear hn hg
                  refine .inl ⟨⟨_, _, rfl, rfl, eg⟩, ?_⟩
                  refine .inl ⟨_, W, rfl, e109, Below.refl _ _⟩
                refine And.intro ?_ ?_
                · intro d hd ρ W hcs bw hn hg
                  cases hd
                  have eg : ρ (.tmp 110) = .bool false := hg _ _ _ _ rfl rfl rfl
                  exact .inr ⟨⟨_, _, _, rfl, rfl, eg, nofun⟩, rfl⟩
                refine And.intro ?_ ?_
                · intro d hd ρ W hcs bw hn hg
                  cases hd
                  have eg : ρ (.tmp 110) = .bool false := hg _ _ _ _ rfl rfl rfl
                  exact .inr ⟨⟨_, _, _, rfl, rfl, eg, nofun⟩, rfl⟩
                refine And.intro ?_ ?_
                · intro d hd ρ W hcs bw hn hg
                  cases hd
                  have eg : ρ (.tmp 107) = .bool false := hg _ _ _ _ rfl rfl rfl
                  have e110 : ρ (.tmp 110) = .bool false := hn 110 (by decide)
                  have e112 : ρ (.tmp 112) = undef := hn 112 (by decide)
                  clear hn hg
                  refine .inl ⟨⟨_, _, rfl, rfl, eg⟩, ?_⟩
                  have hc1 := hcs.1
                  refine .inl ⟨.bool false, W, ?_, rfl, Below.refl _ _⟩
                  go_simp
                refine And.intro ?_ ?_
                · intro d hd ρ W hcs bw hn hg
                  cases hd
                  have eg : ρ (.tmp 107) = .bool false := hg _ _ _ _ rfl rfl rfl
                  have e113 : ρ (.tmp 113) = .bool false := hn 113 (by decide)
                  clear hn hg
                  refine .inl ⟨⟨_, _, rfl, rfl, eg⟩, ?_⟩
                  refine .inl ⟨_, W, rfl, e113, Below.refl _ _⟩
                refine And.intro ?_ ?_
                · intro d hd ρ W hcs bw hn hg
                  cases hd
                  have eg : ρ (.tmp 114) = .bool false := hg _ _ _ _ rfl rfl rfl
                  exact .inr ⟨⟨_, _, _, rfl, rfl, eg, nofun⟩, rfl⟩
                refine And.intro ?_ ?_
                · intro d hd ρ W hcs bw hn hg
                  cases hd
                  have eg : ρ (.tmp 114) = .bool false := hg _ _ _ _ rfl rfl rfl
                  exact .inr ⟨⟨_, _, _, rfl, rfl, eg, nofun⟩, rfl⟩
                refine And.intro ?_ ?_
                · intro d hd ρ W hcs bw hn hg
                  cases hd
                  have eg : ρ (.tmp 114) = .bool false := hg _ _ _ _ rfl rfl rfl
                  exact .inr ⟨⟨_, _, _, rfl, rfl, eg, nofun⟩, rfl⟩
                refine And.intro ?_ ?_
                · intro d hd ρ W hcs bw hn hg
                  cases hd
                  have eg : ρ (.tmp 114) = .bool false := hg _ _ _ _ rfl rfl rfl
                  exact .inr ⟨⟨_, _, _, rfl, rfl, eg, nofun⟩, rfl⟩
                refine And.intro ?_ ?_
                · intro d hd ρ W hcs bw hn hg
                  cases hd
                  have eg : ρ (.tmp 114) = .bool false := hg _ _ _ _ rfl rfl rfl
                  exact .inr ⟨⟨_, _, _, rfl, rfl, eg, nofun⟩, rfl⟩
                refine And.intro ?_ ?_
                · intro d hd ρ W hcs bw hn hg
                  cases hd
                  have eg : ρ (.tmp 114) = .bool false := hg _ _ _ _ rfl rfl rfl
                  exact .inr ⟨⟨_, _, _, rfl, rfl, eg, nofun⟩, rfl⟩
                refine And.intro ?_ ?_
                · intro d hd ρ W hcs bw hn hg
                  cases hd
                  have eg : ρ (.tmp 114) = .bool false := hg _ _ _ _ rfl rfl rfl
                  exact .inr ⟨⟨_, _, _, rfl, rfl, eg, nofun⟩, rfl⟩
                refine And.intro ?_ ?_
                · intro d hd ρ W hcs bw hn hg
                  cases hd
                  have eg : ρ (.tmp 114) = .bool false := hg _ _ _ _ rfl rfl rfl
                  exact .inr ⟨⟨_, _, _, rfl, rfl, eg, nofun⟩, rfl⟩
                refine And.intro ?_ ?_
                · intro d hd ρ W hcs bw hn hg
                  cases hd
                  have eg : ρ (.tmp 114) = .bool false := hg _ _ _ _ rfl rfl rfl
                  exact .inr ⟨⟨_, _, _, rfl, rfl, eg, nofun⟩, rfl⟩
                refine And.intro ?_ ?_
                · intro d hd ρ W hcs bw hn hg
                  cases hd
                  have eg : ρ (.tmp 107) = .bool false := hg _ _ _ _ rfl rfl rfl
                  have e114 : ρ (.tmp 114) = .bool false := hn 114 (by decide)
                  have e123 : ρ (.tmp 123) = undef := hn 123 (by decide)
                  clear hn hg
                  refine .inl ⟨⟨_, _, rfl, rfl, eg⟩, ?_⟩
                  have hc1 := hcs.1
                  refine .inl ⟨.bool false, W, ?_, rfl, Below.refl _ _⟩
                  go_simp
                refine And.intro ?_ ?_
                · intro d hd ρ W hcs bw hn hg
                  cases hd
                  have e107 : ρ (.tmp 107) = .bool false := hn 107 (by decide)
                  have e124 : ρ (.tmp 124) = .bool false := hn 124 (by decide)
                  clear hn hg
                  refine .inl ⟨trivial, ?_⟩
                  have hc1 := hcs.1
                  refine .inl ⟨.bool false, W, ?_, rfl, Below.refl _ _⟩
                  go_simp
                trivial
              · intro a' w' hsz hdf hb hVs
                have q125 : a'.eval (.tmp 125) = .bool false := hVs 125
                have ha := slot_over_seg 90 36 [] rfl (by kernel_rfl) (of_decide_eq_true (by kernel_rfl)) hsz hdf hVs
                clear hVs hsz hdf
                rw [show List.range' 90 36 = [90, 91, 92, 93, 94, 95, 96, 97, 98, 99, 100, 101, 102, 103, 104, 105, 106, 107, 108, 109, 110, 111, 112, 113, 114, 115, 116, 117, 118, 119, 120, 121, 122, 123, 124, 125] from rfl] at ha
                simp only [List.take_succ_cons, List.take_zero, List.drop_succ_cons, List.drop_zero, List.map_cons, List.map_nil, List.cons_append, List.nil_append, List.foldl_cons, List.foldl_nil, List.set_cons_zero, List.set_cons_succ, q125] at ha
                clear q125
                generalize a'.eval (.tmp 90) = x90 at ha
                generalize a'.eval (.tmp 91) = x91 at ha
                generalize a'.eval (.tmp 92) = x92 at ha
                generalize a'.eval (.tmp 93) = x93 at ha
                generalize a'.eval (.tmp 94) = x94 at ha
                generalize a'.eval (.tmp 95) = x95 at ha
                generalize a'.eval (.tmp 96) = x96 at ha
                generalize a'.eval (.tmp 97) = x97 at ha
                generalize a'.eval (.tmp 98) = x98 at ha
                generalize a'.eval (.tmp 99) = x99 at ha
                generalize a'.eval (.tmp 100) = x100 at ha
                generalize a'.eval (.tmp 101) = x101 at ha
                generalize a'.eval (.tmp 102) = x102 at ha
                generalize a'.eval (.tmp 103) = x103 at ha
                generalize a'.eval (.tmp 104) = x104 at ha
                generalize a'.eval (.tmp 105) = x105 at ha
                generalize a'.eval (.tmp 106) = x106 at ha
                generalize a'.eval (.tmp 107) = x107 at ha
                generalize a'.eval (.tmp 108) = x108 at ha
                generalize a'.eval (.tmp 109) = x109 at ha
                generalize a'.eval (.tmp 110) = x110 at ha
                generalize a'.eval (.tmp 111) = x111 at ha
                generalize a'.eval (.tmp 112) = x112 at ha
                generalize a'.eval (.tmp 113) = x113 at ha
                generalize a'.eval (.tmp 114) = x114 at ha
                generalize a'.eval (.tmp 115) = x115 at ha
                generalize a'.eval (.tmp 116) = x116 at ha
                generalize a'.eval (.tmp 117) = x117 at ha
                generalize a'.eval (.tmp 118) = x118 at ha
                generalize a'.eval (.tmp 119) = x119 at ha
                generalize a'.eval (.tmp 120) = x120 at ha
                generalize a'.eval (.tmp 121) = x121 at ha
                generalize a'.eval (.tmp 122) = x122 at ha
                generalize a'.eval (.tmp 123) = x123 at ha
                generalize a'.eval (.tmp 124) = x124 at ha
                subst ha
                have F := FD.below hb
                have hb2 := hbd.below hb hbd.lt
                clear FD hbd hb
                have hb := hb2
                clear hb2
                obtain ⟨w5, hw5⟩ : ∃ w5 : World, w5 = w' := ⟨_, rfl⟩
                rw [← hw5] at F hb ⊢
                clear hw5
                go_upto_region 24 with fail
                have hbd : Blk w5.drew gb 73 #[.int .u8 (xd : Int), .int .i64 xn, .int .u8 (xa : Int), .int .u32 (xb : Int), .int .u8 (xk : Int), .string ⟨xs.toArray⟩, .string ⟨xt.toArray⟩, .string ⟨xu.toArray⟩, .int .u8 (xz : Int)] := hb
                have FD : OF w B g _ _ _ _ _ _ w5.drew := F.below (below_drewN (Below.refl _ _) 1)
                clear hb F
                refine region_inv2 (by kernel_rfl) [] [(126, .int .i64 2), (127, .bool false), (128, .bool false), (129, undef), (130, undef), (131, undef), (132, undef), (133, undef), (134, undef), (135, undef), (136, undef), (137, undef), (138, undef), (139, undef), (140, undef), (141, undef), (142, .bool false)] (by kernel_rfl) (by kernel_rfl) rfl (by kernel_rfl) ?_ ?_ ?_
                · intro q hq; cases hq
                · refine And.intro ?_ ?_
                  · intro d hd ρ W hcs bw hn hg
                    cases hd
                    have e11 : ρ (.tmp 11) = .int .i64 2 := hn 11 (by decide)
                    clear hn hg
                    refine .inl ⟨trivial, ?_⟩
                    refine .inl ⟨_, W, rfl, e11, Below.refl _ _⟩
                  refine And.intro ?_ ?_
                  · intro d hd ρ W hcs bw hn hg
                    cases hd
                    have e126 : ρ (.tmp 126) = .int .i64 2 := hn 126 (by decide)
                    clear hn hg
                    refine .inl ⟨trivial, ?_⟩
                    have hc1 := hcs.1
                    refine .inl ⟨.bool false, W, ?_, rfl, Below.refl _ _⟩
                    go_simp
                  refine And.intro ?_ ?_
                  · intro d hd ρ W hcs bw hn hg
                    cases hd
                    have e127 : ρ (.tmp 127) = .bool false := hn 127 (by decide)
                    clear hn hg
                    refine .inl ⟨trivial, ?_⟩
                    refine .inl ⟨_, W, rfl, e127, Below.refl _ _⟩
                  refine And.intro ?_ ?_
                  · intro d hd ρ W hcs bw hn hg
                    cases hd
                    have eg : ρ (.tmp 128) = .bool false := hg _ _ _ _ rfl rfl rfl
                    exact .inr ⟨⟨_, _, _, rfl, rfl, eg, nofun⟩, rfl⟩
                  refine And.intro ?_ ?_
                  · intro d hd ρ W hcs bw hn hg
                    cases hd
                    have eg : ρ (.tmp 128) = .bool false := hg _ _ _ _ rfl rfl rfl
                    exact .inr ⟨⟨_, _, _, rfl, rfl, eg, nofun⟩, rfl⟩
                  refine And.intro ?_ ?_
                  · intro d hd ρ W hcs bw hn hg
                    cases hd
                    have eg : ρ (.tmp 128) = .bool false := hg _ _ _ _ rfl rfl rfl
                    exact .inr ⟨⟨_, _, _, rfl, rfl, eg, nofun⟩, rfl⟩
                  refine And.intro ?_ ?_
                  · intro d hd ρ W hcs bw hn hg
                    cases hd
                    have eg : ρ (.tmp 131) = undef := hg _ _ _ _ rfl rfl rfl
                    exact .inr ⟨⟨_, _, _, rfl, rfl, eg, nofun⟩, rfl⟩
                  refine And.intro ?_ ?_
                  · intro d hd ρ W hcs bw hn hg
                    cases hd
                    have eg : ρ (.tmp 131) = undef := hg _ _ _ _ rfl rfl rfl
                    exact .inr ⟨⟨_, _, _, rfl, rfl, eg, nofun⟩, rfl⟩
                  refine And.intro ?_ ?_
                  · intro d hd ρ W hcs bw hn hg
                    cases hd
                    have eg : ρ (.tmp 131) = undef := hg _ _ _ _ rfl rfl rfl
                    exact .inr ⟨⟨_, _, _, rfl, rfl, eg, nofun⟩, rfl⟩
                  refine And.intro ?_ ?_
                  · intro d hd ρ W hcs bw hn hg
                    cases hd
                    have eg : ρ (.tmp 131) = undef := hg _ _ _ _ rfl rfl rfl
                    exact .inr ⟨⟨_, _, _, rfl, rfl, eg, nofun⟩, rfl⟩
                  refine And.intro ?_ ?_
                  · intro d hd ρ W hcs bw hn hg
                    cases hd
                    have eg : ρ (.tmp 131) = undef := hg _ _ _ _ rfl rfl rfl
                    exact .inr ⟨⟨_, _, _, rfl, rfl, eg, nofun⟩, rfl⟩
                  refine And.intro ?_ ?_
                  · intro d hd ρ W hcs bw hn hg
                    cases hd
                    have eg : ρ (.tmp 131) = undef := hg _ _ _ _ rfl rfl rfl
                    exact .inr ⟨⟨_, _, _, rfl, rfl, eg, nofun⟩, rfl⟩
                  refine And.intro ?_ ?_
                  · intro d hd ρ W hcs bw hn hg
                    cases hd
                    have eg : ρ (.tmp 131) = undef := hg _ _ _ _ rfl rfl rfl
                    exact .inr ⟨⟨_, _, _, rfl, rfl, eg, nofun⟩, rfl⟩
                  refine And.intro ?_ ?_
                  · intro d hd ρ W hcs bw hn hg
                    cases hd
                    have eg : ρ (.tmp 131) = undef := hg _ _ _ _ rfl rfl rfl
                    exact .inr ⟨⟨_, _, _, rfl, rfl, eg, nofun⟩, rfl⟩
                  refine And.intro ?_ ?_
                  · intro d hd ρ W hcs bw hn hg
                    cases hd
                    have eg : ρ (.tmp 131) = undef := hg _ _ _ _ rfl rfl rfl
                    exact .inr ⟨⟨_, _, _, rfl, rfl, eg, nofun⟩, rfl⟩
                  refine And.intro ?_ ?_
                  · intro d hd ρ W hcs bw hn hg
                    cases hd
                    have eg : ρ (.tmp 128) = .bool false := hg _ _ _ _ rfl rfl rfl
                    exact .inr ⟨⟨_, _, _, rfl, rfl, eg, nofun⟩, rfl⟩
                  refine And.intro ?_ ?_
                  · intro d hd ρ W hcs bw hn hg
                    cases hd
                    have e128 : ρ (.tmp 128) = .bool false := hn 128 (by decide)
                    have e141 : ρ (.tmp 141) = undef := hn 141 (by decide)
                    clear hn hg
                    refine .inl ⟨trivial, ?_⟩
                    have hc1 := hcs.1
                    refine .inl ⟨.bool false, W, ?_, rfl, Below.refl _ _⟩
                    go_simp
                  trivial
                · intro a' w' hsz hdf hb hVs
                  have q142 : a'.eval (.tmp 142) = .bool false := hVs 142
                  have ha := slot_over_seg 126 17 [] rfl (by kernel_rfl) (of_decide_eq_true (by kernel_rfl)) hsz hdf hVs
                  clear hVs hsz hdf
                  rw [show List.range' 126 17 = [126, 127, 128, 129, 130, 131, 132, 133, 134, 135, 136, 137, 138, 139, 140, 141, 142] from rfl] at ha
                  simp only [List.take_succ_cons, List.take_zero, List.drop_succ_cons, List.drop_zero, List.map_cons, List.map_nil, List.cons_append, List.nil_append, List.foldl_cons, List.foldl_nil, List.set_cons_zero, List.set_cons_succ, q142] at ha
                  clear q142
                  generalize a'.eval (.tmp 126) = x126 at ha
                  generalize a'.eval (.tmp 127) = x127 at ha
                  generalize a'.eval (.tmp 128) = x128 at ha
                  generalize a'.eval (.tmp 129) = x129 at ha
                  generalize a'.eval (.tmp 130) = x130 at ha
                  generalize a'.eval (.tmp 131) = x131 at ha
                  generalize a'.eval (.tmp 132) = x132 at ha
                  generalize a'.eval (.tmp 133) = x133 at ha
                  generalize a'.eval (.tmp 134) = x134 at ha
                  generalize a'.eval (.tmp 135) = x135 at ha
                  generalize a'.eval (.tmp 136) = x136 at ha
                  generalize a'.eval (.tmp 137) = x137 at ha
                  generalize a'.eval (.tmp 138) = x138 at ha
                  generalize a'.eval (.tmp 139) = x139 at ha
                  generalize a'.eval (.tmp 140) = x140 at ha
                  generalize a'.eval (.tmp 141) = x141 at ha
                  subst ha
                  have F := FD.below hb
                  have hb2 := hbd.below hb hbd.lt
                  clear FD hbd hb
                  have hb := hb2
                  clear hb2
                  obtain ⟨w6, hw5⟩ : ∃ w6 : World, w6 = w' := ⟨_, rfl⟩
                  rw [← hw5] at F hb ⊢
                  clear hw5
                  have HF := Lib.hid F
                  have HGD2 := Lib.hid hgd2
                  clear F hb hgd2
                  have HLG2 : Hid (lg.length + n ≤ k + 1) := Nat.le_succ_of_le HLG.out
                  go_wp2_with fail
                  go_roundg (ln - (k + 1))
                  case measure => omega
                  case rel => exact ⟨k + 1, n, m, v', _, c, u, lg, by omega, by go_num, rfl, rfl, HN, HNC, HLG2, HGD2.out, HF.out⟩
            rw [hmb, if_neg (by decide)] at hput
            clear hmb
            cases hfn : findN m xa with
            | none =>
              rw [hfn] at hput
              simp only at hput
              subst hput
              have hwas := HWAS.out
              rw [findI_none hfn] at hwas
              subst hwas
              go_wp2_with fail
              refine HP.out.mono ?_; rintro e w4 ⟨rfl, v', q', s⟩
              have F := F.step HBB.out s q'
              have hb := s.blk fb hb
              clear y2 y3 y4 y5 y6 y7 y8 HP s q' fb
              go_upto_region 22 with fail
              have hbd : Blk w4.drew gb 73 #[.int .u8 (xd : Int), .int .i64 xn, .int .u8 (xa : Int), .int .u32 (xb : Int), .int .u8 (xk : Int), .string ⟨xs.toArray⟩, .string ⟨xt.toArray⟩, .string ⟨xu.toArray⟩, .int .u8 (xz : Int)] := hb
              have FD : OF w B g _ _ _ _ _ _ w4.drew := F.below (below_drewN (Below.refl _ _) 1)
              clear hb F
              refine region_inv2 (by kernel_rfl) [] [(90, .int .i64 0), (91, .bool false), (92, .bool false), (93, undef), (94, undef), (95, undef), (96, undef), (97, undef), (98, undef), (99, undef), (100, undef), (101, undef), (102, undef), (103, undef), (104, undef), (105, undef), (106, .bool false), (107, .bool false), (108, .int .i64 0), (109, .bool true), (110, .bool true), (111, .int .i64 (-1)), (112, .bool false), (113, .bool false), (114, .bool false), (115, undef), (116, undef), (117, undef), (118, undef), (119, undef), (120, undef), (121, undef), (122, undef), (123, undef), (124, .bool false), (125, .bool false)] (by kernel_rfl) (by kernel_rfl) rfl (by kernel_rfl) ?_ ?_ ?_
              · intro q hq; cases hq
              · refine And.intro ?_ ?_
                · intro d hd ρ W hcs bw hn hg
                  cases hd
                  have e11 : ρ (.tmp 11) = .int .i64 0 := hn 11 (by decide)
                  clear hn hg
                  refine .inl ⟨trivial, ?_⟩
                  refine .inl ⟨_, W, rfl, e11, Below.refl _ _⟩
                refine And.intro ?_ ?_
                · intro d hd ρ W hcs bw hn hg
                  cases hd
                  have e90 : ρ (.tmp 90) = .int .i64 0 := hn 90 (by decide)
                  clear hn hg
                  refine .inl ⟨trivial, ?_⟩
                  have hc1 := hcs.1
                  refine .inl ⟨.bool false, W, ?_, rfl, Below.refl _ _⟩
                  go_simp
                refine And.intro ?_ ?_
                · intro d hd ρ W hcs bw hn hg
                  cases hd
                  have e91 : ρ (.tmp 91) = .bool false := hn 91 (by decide)
                  clear hn hg
                  refine .inl ⟨trivial, ?_⟩
                  refine .inl ⟨_, W, rfl, e91, Below.refl _ _⟩
                refine And.intro ?_ ?_
                · intro d hd ρ W hcs bw hn hg
                  cases hd
                  have eg : ρ (.tmp 92) = .bool false := hg _ _ _ _ rfl rfl rfl
                  exact .inr ⟨⟨_, _, _, rfl, rfl, eg, nofun⟩, rfl⟩
                refine And.intro ?_ ?_
                · intro d hd ρ W hcs bw hn hg
                  cases hd
                  have eg : ρ (.tmp 92) = .bool false := hg _ _ _ _ rfl rfl rfl
                  exact .inr ⟨⟨_, _, _, rfl, rfl, eg, nofun⟩, rfl⟩
                refine And.intro ?_ ?_
                · intro d hd ρ W hcs bw hn hg
                  cases hd
                  have eg : ρ (.tmp 92) = .bool false := hg _ _ _ _ rfl rfl rfl
                  exact .inr ⟨⟨_, _, _, rfl, rfl, eg, nofun⟩, rfl⟩
                refine And.intro ?_ ?_
                · intro d hd ρ W hcs bw hn hg
                  cases hd
                  have eg : ρ (.tmp 95) = undef := hg _ _ _ _ rfl rfl rfl
                  exact .inr ⟨⟨_, _, _, rfl, rfl, eg, nofun⟩, rfl⟩
                refine And.intro ?_ ?_
                · intro d hd ρ W hcs bw hn hg
                  cases hd
                  have eg : ρ (.tmp 95) = undef := hg _ _ _ _ rfl rfl rfl
                  exact .inr ⟨⟨_, _, _, rfl, rfl, eg, nofun⟩, rfl⟩
                refine And.intro ?_ ?_
                · intro d hd ρ W hcs bw hn hg
                  cases hd
                  have eg : ρ (.tmp 95) = undef := hg _ _ _ _ rfl rfl rfl
                  exact .inr ⟨⟨_, _, _, rfl, rfl, eg, nofun⟩, rfl⟩
                refine And.intro ?_ ?_
                · intro d hd ρ W hcs bw hn hg
                  cases hd
                  have eg : ρ (.tmp 95) = undef := hg _ _ _ _ rfl rfl rfl
                  exact .inr ⟨⟨_, _, _, rfl, rfl, eg, nofun⟩, rfl⟩
                refine And.intro ?_ ?_
                · intro d hd ρ W hcs bw hn hg
                  cases hd
                  have eg : ρ (.tmp 95) = undef := hg _ _ _ _ rfl rfl rfl
                  exact .inr ⟨⟨_, _, _, rfl, rfl, eg, nofun⟩, rfl⟩
                refine And.intro ?_ ?_
                · intro d hd ρ W hcs bw hn hg
                  cases hd
                  have eg : ρ (.tmp 95) = undef := hg _ _ _ _ rfl rfl rfl
                  exact .inr ⟨⟨_, _, _, rfl, rfl, eg, nofun⟩, rfl⟩
                refine And.intro ?_ ?_
                · intro d hd ρ W hcs bw hn hg
                  cases hd
                  have eg : ρ (.tmp 95) = undef := hg _ _ _ _ rfl rfl rfl
                  exact .inr ⟨⟨_, _, _, rfl, rfl, eg, nofun⟩, rfl⟩
                refine And.intro ?_ ?_
                · intro d hd ρ W hcs bw hn hg
                  cases hd
                  have eg : ρ (.tmp 95) = undef := hg _ _ _ _ rfl rfl rfl
                  exact .inr ⟨⟨_, _, _, rfl, rfl, eg, nofun⟩, rfl⟩
                refine And.intro ?_ ?_
                · intro d hd ρ W hcs bw hn hg
                  cases hd
                  have eg : ρ (.tmp 95) = undef := hg _ _ _ _ rfl rfl rfl
                  exact .inr ⟨⟨_, _, _, rfl, rfl, eg, nofun⟩, rfl⟩
                refine And.intro ?_ ?_
                · intro d hd ρ W hcs bw hn hg
                  cases hd
                  have eg : ρ (.tmp 92) = .bool false := hg _ _ _ _ rfl rfl rfl
                  exact .inr ⟨⟨_, _, _, rfl, rfl, eg, nofun⟩, rfl⟩
                refine And.intro ?_ ?_
                · intro d hd ρ W hcs bw hn hg
                  cases hd
                  have e92 : ρ (.tmp 92) = .bool false := hn 92 (by decide)
                  have e105 : ρ (.tmp 105) = undef := hn 105 (by decide)
                  clear hn hg
                  refine .inl ⟨trivial, ?_⟩
                  have hc1 := hcs.1
                  refine .inl ⟨.bool false, W, ?_, rfl, Below.refl _ _⟩
                  go_simp
                refine And.intro ?_ ?_
                · intro d hd ρ W hcs bw hn hg
                  cases hd
                  have e106 : ρ (.tmp 106) = .bool false := hn 106 (by decide)
                  clear hn hg
                  refine .inl ⟨trivial, ?_⟩
                  refine .inl ⟨_, W, rfl, e106, Below.refl _ _⟩
                refine And.intro ?_ ?_
                · intro d hd ρ W hcs bw hn hg
                  cases hd
                  have eg : ρ (.tmp 107) = .bool false := hg _ _ _ _ rfl rfl rfl
                  have e11 : ρ (.tmp 11) = .int .i64 0 := hn 11 (by decide)
                  clear hn hg
                  refine .inl ⟨⟨_, _, rfl, rfl, eg⟩, ?_⟩
                  refine .inl ⟨_, W, rfl, e11, Below.refl _ _⟩
                refine And.intro ?_ ?_
                · intro d hd ρ W hcs bw hn hg
                  cases hd
                  have eg : ρ (.tmp 107) = .bool false := hg _ _ _ _ rfl rfl rfl
                  have e108 : ρ (.tmp 108) = .int .i64 0 := hn 108 (by decide)
                  clear hn hg
                  refine .inl ⟨⟨_, _, rfl, rfl, eg⟩, ?_⟩
                  have hc1 := hcs.1
                  refine .inl ⟨.bool true, W, ?_, rfl, Below.refl _ _⟩
                  go_simp
                refine And.intro ?_ ?_
                · intro d hd ρ W hcs bw hn hg
                  cases hd
                  have eg : ρ (.tmp 107) = .bool false := hg _ _ _ _ rfl rfl rfl
                  have e109 : ρ (.tmp 109) = .bool true := hn 109 (by decide)
                  clear hn hg
                  refine .inl ⟨⟨_, _, rfl, rfl, eg⟩, ?_⟩
                  refine .inl ⟨_, W, rfl, e109, Below.refl _ _⟩
                refine And.intro ?_ ?_
                · intro d hd ρ W hcs bw hn hg
                  cases hd
                  have eg : ρ (.tmp 110) = .bool true := hg _ _ _ _ rfl rfl rfl
                  have e9 : ρ (.tmp 9) = .int .i64 (-1) := hn 9 (by decide)
                  clear hn hg
                  refine .inl ⟨⟨_, _, rfl, rfl, eg⟩, ?_⟩
                  refine .inl ⟨_, W, rfl, e9, Below.refl _ _⟩
                refine And.intro ?_ ?_
                · intro d hd ρ W hcs bw hn hg
                  cases hd
                  have eg : ρ (.tmp 110) = .bool true := hg _ _ _ _ rfl rfl rfl
                  have e111 : ρ (.tmp 111) = .int .i64 (-1) := hn 111 (by decide)
                  clear hn hg
                  refine .inl ⟨⟨_, _, rfl, rfl, eg⟩, ?_⟩
                  have hc1 := hcs.1
                  refine .inl ⟨.bool false, W, ?_, rfl, Below.refl _ _⟩
                  go_simp
                refine And.intro ?_ ?_
                · intro d hd ρ W hcs bw hn hg
                  cases hd
                  have eg : ρ (.tmp 107) = .bool false := hg _ _ _ _ rfl rfl rfl
                  have e110 : ρ (.tmp 110) = .bool true := hn 110 (by decide)
                  have e112 : ρ (.tmp 112) = .bool false := hn 112 (by decide)
                  clear hn hg
                  refine .inl ⟨⟨_, _, rfl, rfl, eg⟩, ?_⟩
                  have hc1 := hcs.1
                  refine .inl ⟨.bool false, W, ?_, rfl, Below.refl _ _⟩
                  go_simp
                refine And.intro ?_ ?_
                · intro d hd ρ W hcs bw hn hg
                  cases hd
                  have eg : ρ (.tmp 107) = .bool false := hg _ _ _ _ rfl rfl rfl
                  have e113 : ρ (.tmp 113) = .bool false := hn 113 (by decide)
                  clear hn hg
                  refine .inl ⟨⟨_, _, rfl, rfl, eg⟩, ?_⟩
                  refine .inl ⟨_, W, rfl, e113, Below.refl _ _⟩
                refine And.intro ?_ ?_
                · intro d hd ρ W hcs bw hn hg
                  cases hd
                  have eg : ρ (.tmp 114) = .bool false := hg _ _ _ _ rfl rfl rfl
                  exact .inr ⟨⟨_, _, _, rfl, rfl, eg, nofun⟩, rfl⟩
                refine And.intro ?_ ?_
                · intro d hd ρ W hcs bw hn hg
                  cases hd
                  have eg : ρ (.tmp 114) = .bool false := hg _ _ _ _ rfl rfl rfl
                  exact .inr ⟨⟨_, _, _, rfl, rfl, eg, nofun⟩, rfl⟩
                refine And.intro ?_ ?_
                · intro d hd ρ W hcs bw hn hg
                  cases hd
                  have eg : ρ (.tmp 114) = .bool false := hg _ _ _ _ rfl rfl rfl
                  exact .inr ⟨⟨_, _, _, rfl, rfl, eg, nofun⟩, rfl⟩
                refine And.intro ?_ ?_
                · intro d hd ρ W hcs bw hn hg
                  cases hd
                  have eg : ρ (.tmp 114) = .bool false := hg _ _ _ _ rfl rfl rfl
                  exact .inr ⟨⟨_, _, _, rfl, rfl, eg, nofun⟩, rfl⟩
                refine And.intro ?_ ?_
                · intro d hd ρ W hcs bw hn hg
                  cases hd
                  have eg : ρ (.tmp 114) = .bool false := hg _ _ _ _ rfl rfl rfl
                  exact .inr ⟨⟨_, _, _, rfl, rfl, eg, nofun⟩, rfl⟩
                refine And.intro ?_ ?_
                · intro d hd ρ W hcs bw hn hg
                  cases hd
                  have eg : ρ (.tmp 114) = .bool false := hg _ _ _ _ rfl rfl rfl
                  exact .inr ⟨⟨_, _, _, rfl, rfl, eg, nofun⟩, rfl⟩
                refine And.intro ?_ ?_
                · intro d hd ρ W hcs bw hn hg
                  cases hd
                  have eg : ρ (.tmp 114) = .bool false := hg _ _ _ _ rfl rfl rfl
                  exact .inr ⟨⟨_, _, _, rfl, rfl, eg, nofun⟩, rfl⟩
                refine And.intro ?_ ?_
                · intro d hd ρ W hcs bw hn hg
                  cases hd
                  have eg : ρ (.tmp 114) = .bool false := hg _ _ _ _ rfl rfl rfl
                  exact .inr ⟨⟨_, _, _, rfl, rfl, eg, nofun⟩, rfl⟩
                refine And.intro ?_ ?_
                · intro d hd ρ W hcs bw hn hg
                  cases hd
                  have eg : ρ (.tmp 114) = .bool false := hg _ _ _ _ rfl rfl rfl
                  exact .inr ⟨⟨_, _, _, rfl, rfl, eg, nofun⟩, rfl⟩
                refine And.intro ?_ ?_
                · intro d hd ρ W hcs bw hn hg
                  cases hd
                  have eg : ρ (.tmp 107) = .bool false := hg _ _ _ _ rfl rfl rfl
                  have e114 : ρ (.tmp 114) = .bool false := hn 114 (by decide)
                  have e123 : ρ (.tmp 123) = undef := hn 123 (by decide)
                  clear hn hg
                  refine .inl ⟨⟨_, _, rfl, rfl, eg⟩, ?_⟩
                  have hc1 := hcs.1
                  refine .inl ⟨.bool false, W, ?_, rfl, Below.refl _ _⟩
                  go_simp
                refine And.intro ?_ ?_
                · intro d hd ρ W hcs bw hn hg
                  cases hd
                  have e107 : ρ (.tmp 107) = .bool false := hn 107 (by decide)
                  have e124 : ρ (.tmp 124) = .bool false := hn 124 (by decide)
                  clear hn hg
                  refine .inl ⟨trivial, ?_⟩
                  have hc1 := hcs.1
                  refine .inl ⟨.bool false, W, ?_, rfl, Below.refl _ _⟩
                  go_simp
                trivial
              · intro a' w' hsz hdf hb hVs
                have q125 : a'.eval (.tmp 125) = .bool false := hVs 125
                have ha := slot_over_seg 90 36 [] rfl (by kernel_rfl) (of_decide_eq_true (by kernel_rfl)) hsz hdf hVs
                clear hVs hsz hdf
                rw [show List.range' 90 36 = [90, 91, 92, 93, 94, 95, 96, 97, 98, 99, 100, 101, 102, 103, 104, 105, 106, 107, 108, 109, 110, 111, 112, 113, 114, 115, 116, 117, 118, 119, 120, 121, 122, 123, 124, 125] from rfl] at ha
                simp only [List.take_succ_cons, List.take_zero, List.drop_succ_cons, List.drop_zero, List.map_cons, List.map_nil, List.cons_append, List.nil_append, List.foldl_cons, List.foldl_nil, List.set_cons_zero, List.set_cons_succ, q125] at ha
                clear q125
                generalize a'.eval (.tmp 90) = x90 at ha
                generalize a'.eval (.tmp 91) = x91 at ha
                generalize a'.eval (.tmp 92) = x92 at ha
                generalize a'.eval (.tmp 93) = x93 at ha
                generalize a'.eval (.tmp 94) = x94 at ha
                generalize a'.eval (.tmp 95) = x95 at ha
                generalize a'.eval (.tmp 96) = x96 at ha
                generalize a'.eval (.tmp 97) = x97 at ha
                generalize a'.eval (.tmp 98) = x98 at ha
                generalize a'.eval (.tmp 99) = x99 at ha
                generalize a'.eval (.tmp 100) = x100 at ha
                generalize a'.eval (.tmp 101) = x101 at ha
                generalize a'.eval (.tmp 102) = x102 at ha
                generalize a'.eval (.tmp 103) = x103 at ha
                generalize a'.eval (.tmp 104) = x104 at ha
                generalize a'.eval (.tmp 105) = x105 at ha
                generalize a'.eval (.tmp 106) = x106 at ha
                generalize a'.eval (.tmp 107) = x107 at ha
                generalize a'.eval (.tmp 108) = x108 at ha
                generalize a'.eval (.tmp 109) = x109 at ha
                generalize a'.eval (.tmp 110) = x110 at ha
                generalize a'.eval (.tmp 111) = x111 at ha
                generalize a'.eval (.tmp 112) = x112 at ha
                generalize a'.eval (.tmp 113) = x113 at ha
                generalize a'.eval (.tmp 114) = x114 at ha
                generalize a'.eval (.tmp 115) = x115 at ha
                generalize a'.eval (.tmp 116) = x116 at ha
                generalize a'.eval (.tmp 117) = x117 at ha
                generalize a'.eval (.tmp 118) = x118 at ha
                generalize a'.eval (.tmp 119) = x119 at ha
                generalize a'.eval (.tmp 120) = x120 at ha
                generalize a'.eval (.tmp 121) = x121 at ha
                generalize a'.eval (.tmp 122) = x122 at ha
                generalize a'.eval (.tmp 123) = x123 at ha
                generalize a'.eval (.tmp 124) = x124 at ha
                subst ha
                have F := FD.below hb
                have hb2 := hbd.below hb hbd.lt
                clear FD hbd hb
                have hb := hb2
                clear hb2
                obtain ⟨w5, hw5⟩ : ∃ w5 : World, w5 = w' := ⟨_, rfl⟩
                rw [← hw5] at F hb ⊢
                clear hw5
                go_upto_region 24 with fail
                have hbd : Blk w5.drew gb 73 #[.int .u8 (xd : Int), .int .i64 xn, .int .u8 (xa : Int), .int .u32 (xb : Int), .int .u8 (xk : Int), .string ⟨xs.toArray⟩, .string ⟨xt.toArray⟩, .string ⟨xu.toArray⟩, .int .u8 (xz : Int)] := hb
                have FD : OF w B g _ _ _ _ _ _ w5.drew := F.below (below_drewN (Below.refl _ _) 1)
                clear hb F
                refine region_inv2 (by kernel_rfl) [] [(126, .int .i64 0), (127, .bool true), (128, .bool true), (129, .int .i64 (-1)), (130, .bool true), (131, .bool true), (132, undef), (133, undef), (134, undef), (135, undef), (136, undef), (137, undef), (138, undef), (139, undef), (140, undef), (141, .bool true), (142, .bool true)] (by kernel_rfl) (by kernel_rfl) rfl (by kernel_rfl) ?_ ?_ ?_
                · intro q hq; cases hq
                · refine And.intro ?_ ?_
                  · intro d hd ρ W hcs bw hn hg
                    cases hd
                    have e11 : ρ (.tmp 11) = .int .i64 0 := hn 11 (by decide)
                    clear hn hg
                    refine .inl ⟨trivial, ?_⟩
                    refine .inl ⟨_, W, rfl, e11, Below.refl _ _⟩
                  refine And.intro ?_ ?_
                  · intro d hd ρ W hcs bw hn hg
                    cases hd
                    have e126 : ρ (.tmp 126) = .int .i64 0 := hn 126 (by decide)
                    clear hn hg
                    refine .inl ⟨trivial, ?_⟩
                    have hc1 := hcs.1
                    refine .inl ⟨.bool true, W, ?_, rfl, Below.refl _ _⟩
                    go_simp
                  refine And.intro ?_ ?_
                  · intro d hd ρ W hcs bw hn hg
                    cases hd
                    have e127 : ρ (.tmp 127) = .bool true := hn 127 (by decide)
                    clear hn hg
                    refine .inl ⟨trivial, ?_⟩
                    refine .inl ⟨_, W, rfl, e127, Below.refl _ _⟩
                  refine And.intro ?_ ?_
                  · intro d hd ρ W hcs bw hn hg
                    cases hd
                    have eg : ρ (.tmp 128) = .bool true := hg _ _ _ _ rfl rfl rfl
                    have e9 : ρ (.tmp 9) = .int .i64 (-1) := hn 9 (by decide)
                    clear hn hg
                    refine .inl ⟨⟨_, _, rfl, rfl, eg⟩, ?_⟩
                    refine .inl ⟨_, W, rfl, e9, Below.refl _ _⟩
                  refine And.intro ?_ ?_
                  · intro d hd ρ W hcs bw hn hg
                    cases hd
                    have eg : ρ (.tmp 128) = .bool true := hg _ _ _ _ rfl rfl rfl
                    have e129 : ρ (.tmp 129) = .int .i64 (-1) := hn 129 (by decide)
                    clear hn hg
                    refine .inl ⟨⟨_, _, rfl, rfl, eg⟩, ?_⟩
                    have hc1 := hcs.1
                    refine .inl ⟨.bool true, W, ?_, rfl, Below.refl _ _⟩
                    go_simp
                  refine And.intro ?_ ?_
                  · intro d hd ρ W hcs bw hn hg
                    cases hd
                    have eg : ρ (.tmp 128) = .bool true := hg _ _ _ _ rfl rfl rfl
                    have e130 : ρ (.tmp 130) = .bool true := hn 130 (by decide)
                    clear hn hg
                    refine .inl ⟨⟨_, _, rfl, rfl, eg⟩, ?_⟩
                    refine .inl ⟨_, W, rfl, e130, Below.refl _ _⟩
                  refine And.intro ?_ ?_
                  · intro d hd ρ W hcs bw hn hg
                    cases hd
                    have eg : ρ (.tmp 131) = .bool true := hg _ _ _ _ rfl rfl rfl
                    exact .inr ⟨⟨_, _, _, rfl, rfl, eg, nofun⟩, rfl⟩
                  refine And.intro ?_ ?_
                  · intro d hd ρ W hcs bw hn hg
                    cases hd
                    have eg : ρ (.tmp 131) = .bool true := hg _ _ _ _ rfl rfl rfl
                    exact .inr ⟨⟨_, _, _, rfl, rfl, eg, nofun⟩, rfl⟩
                  refine And.intro ?_ ?_
                  · intro d hd ρ W hcs bw hn hg
                    cases hd
                    have eg : ρ (.tmp 131) = .bool true := hg _ _ _ _ rfl rfl rfl
                    exact .inr ⟨⟨_, _, _, rfl, rfl, eg, nofun⟩, rfl⟩
                  refine And.intro ?_ ?_
                  · intro d hd ρ W hcs bw hn hg
                    cases hd
                    have eg : ρ (.tmp 131) = .bool true := hg _ _ _ _ rfl rfl rfl
                    exact .inr ⟨⟨_, _, _, rfl, rfl, eg, nofun⟩, rfl⟩
                  refine And.intro ?_ ?_
                  · intro d hd ρ W hcs bw hn hg
                    cases hd
                    have eg : ρ (.tmp 131) = .bool true := hg _ _ _ _ rfl rfl rfl
                    exact .inr ⟨⟨_, _, _, rfl, rfl, eg, nofun⟩, rfl⟩
                  refine And.intro ?_ ?_
                  · intro d hd ρ W hcs bw hn hg
                    cases hd
                    have eg : ρ (.tmp 131) = .bool true := hg _ _ _ _ rfl rfl rfl
                    exact .inr ⟨⟨_, _, _, rfl, rfl, eg, nofun⟩, rfl⟩
                  refine And.intro ?_ ?_
                  · intro d hd ρ W hcs bw hn hg
                    cases hd
                    have eg : ρ (.tmp 131) = .bool true := hg _ _ _ _ rfl rfl rfl
                    exact .inr ⟨⟨_, _, _, rfl, rfl, eg, nofun⟩, rfl⟩
                  refine And.intro ?_ ?_
                  · intro d hd ρ W hcs bw hn hg
                    cases hd
                    have eg : ρ (.tmp 131) = .bool true := hg _ _ _ _ rfl rfl rfl
                    exact .inr ⟨⟨_, _, _, rfl, rfl, eg, nofun⟩, rfl⟩
                  refine And.intro ?_ ?_
                  · intro d hd ρ W hcs bw hn hg
                    cases hd
                    have eg : ρ (.tmp 131) = .bool true := hg _ _ _ _ rfl rfl rfl
                    exact .inr ⟨⟨_, _, _, rfl, rfl, eg, nofun⟩, rfl⟩
                  refine And.intro ?_ ?_
                  · intro d hd ρ W hcs bw hn hg
                    cases hd
                    have eg : ρ (.tmp 128) = .bool true := hg _ _ _ _ rfl rfl rfl
                    have e131 : ρ (.tmp 131) = .bool true := hn 131 (by decide)
                    have e140 : ρ (.tmp 140) = undef := hn 140 (by decide)
                    clear hn hg
                    refine .inl ⟨⟨_, _, rfl, rfl, eg⟩, ?_⟩
                    have hc1 := hcs.1
                    refine .inl ⟨.bool true, W, ?_, rfl, Below.refl _ _⟩
                    go_simp
                  refine And.intro ?_ ?_
                  · intro d hd ρ W hcs bw hn hg
                    cases hd
                    have e128 : ρ (.tmp 128) = .bool true := hn 128 (by decide)
                    have e141 : ρ (.tmp 141) = .bool true := hn 141 (by decide)
                    clear hn hg
                    refine .inl ⟨trivial, ?_⟩
                    have hc1 := hcs.1
                    refine .inl ⟨.bool true, W, ?_, rfl, Below.refl _ _⟩
                    go_simp
                  trivial
                · intro a' w' hsz hdf hb hVs
                  have q142 : a'.eval (.tmp 142) = .bool true := hVs 142
                  have ha := slot_over_seg 126 17 [] rfl (by kernel_rfl) (of_decide_eq_true (by kernel_rfl)) hsz hdf hVs
                  clear hVs hsz hdf
                  rw [show List.range' 126 17 = [126, 127, 128, 129, 130, 131, 132, 133, 134, 135, 136, 137, 138, 139, 140, 141, 142] from rfl] at ha
                  simp only [List.take_succ_cons, List.take_zero, List.drop_succ_cons, List.drop_zero, List.map_cons, List.map_nil, List.cons_append, List.nil_append, List.foldl_cons, List.foldl_nil, List.set_cons_zero, List.set_cons_succ, q142] at ha
                  clear q142
                  generalize a'.eval (.tmp 126) = x126 at ha
                  generalize a'.eval (.tmp 127) = x127 at ha
                  generalize a'.eval (.tmp 128) = x128 at ha
                  generalize a'.eval (.tmp 129) = x129 at ha
                  generalize a'.eval (.tmp 130) = x130 at ha
                  generalize a'.eval (.tmp 131) = x131 at ha
                  generalize a'.eval (.tmp 132) = x132 at ha
                  generalize a'.eval (.tmp 133) = x133 at ha
                  generalize a'.eval (.tmp 134) = x134 at ha
                  generalize a'.eval (.tmp 135) = x135 at ha
                  generalize a'.eval (.tmp 136) = x136 at ha
                  generalize a'.eval (.tmp 137) = x137 at ha
                  generalize a'.eval (.tmp 138) = x138 at ha
                  generalize a'.eval (.tmp 139) = x139 at ha
                  generalize a'.eval (.tmp 140) = x140 at ha
                  generalize a'.eval (.tmp 141) = x141 at ha
                  subst ha
                  have F := FD.below hb
                  have hb2 := hbd.below hb hbd.lt
                  clear FD hbd hb
                  have hb := hb2
                  clear hb2
                  obtain ⟨w6, hw5⟩ : ∃ w6 : World, w6 = w' := ⟨_, rfl⟩
                  rw [← hw5] at F hb ⊢
                  clear hw5
                  have HW := Lib.hid F
                  have HGD2 := Lib.hid hgd2
                  clear F hgd2
                  have HI : Hid (∀ j : Nat, j < n → (((j : Int) != (-1)) = decide (j ≠ n))) := fun j hj => by
                    by_cases h : j = n
                    · omega
                    · rw [decide_eq_true h]; exact bne_iff_ne.2 (by omega)
                  go_wp2_with fail
                  go_loopg [12, 13] n (fun gk v12 v13 wz => ∃ (j : Nat) (r : Value), j + gk = n ∧ v13 = .int .i64 (j : Int) ∧ r = v12 ∧ wz.ownsRow w6.heap.size 36 7 r ((m.take j).eraseIdx n).length (((m.take j).eraseIdx n).flatMap cmL) ∧ Below w6.heap.size w6 wz)
                  case atStart => exact ⟨0, _, by omega, rfl, rfl, (by simpa using World.ownsRow_nil _ _ _ _), Below.refl _ _⟩
                  case round =>
                    obtain ⟨j, r, hj, rfl, rfl, ho, bz⟩ := hrel
                    by_cases h6 : j < n
                    · have hk6 : (j : Int) < (n : Int) := by omega
                      obtain ⟨y, hy⟩ : ∃ y, m[j]? = some y := ⟨_, List.getElem?_eq_getElem (by rw [HN.out]; exact h6)⟩
                      have hes := erase_succ (i := n) hy
                      have hdj := HI.out j h6
                      by_cases hji : j = n
                      · omega
                      · rw [decide_eq_true hji] at hdj
                        rw [if_neg hji] at hes
                        obtain ⟨ad, rfl, hadl, z0, z1⟩ := HW.out.rf.r.at_ hy
                        have hadb : (ad.add (j * 7)).block < w6.heap.size := by rw [block_of_add]; exact hadl
                        have hnew := cm_row (Blk.new wr 36 (cmC y))
                        have hba : Below w6.heap.size w6 (wr.alloc (.cells (cmC y) 36)) := bz.alloc bz.size _
                        have ho2 : (wr.alloc (.cells (cmC y) 36)).ownsRow w6.heap.size 36 7 r _ _ := own_below (h0 := wr.heap.size) ho ((Below.refl _ wr).alloc (Nat.le_refl _) _) (fun q hq => (ho.lt q hq).2)
                        have hlj : ((m.take j).eraseIdx n).length ≤ 300 := by have h1 := List.length_eraseIdx_le (m.take j) n; have h2 : (m.take j).length ≤ j := (by rw [List.length_take]; omega); omega
                        obtain ⟨r', w7, happ, ho7, hg7, _⟩ := app_any (base := w6.heap.size) hba.size ho2 hnew (c := 1) (by simp only [List.length_cons, List.length_nil]; omega) 30
                        rw [← hes] at ho7
                        have bz7 := hba.grown hg7 hba.size (fun q hq => (ho.lt q hq).1)
                        obtain ⟨ya, yb, yk, ys, yt, yu, yz⟩ := y
                        have q0 : wr.cell? (ad.add (j * 7)) = some (.int .u8 (ya : Int)) := (bz.cell hadb).trans (z0 _ rfl)
                        have q1 : wr.cell? { block := (ad.add (j * 7)).block, off := (ad.add (j * 7)).off + 1 } = some (.int .u32 (yb : Int)) := (bz.cell (by exact hadb)).trans (z1 0 _ rfl)
                        have q2 : wr.cell? { block := (ad.add (j * 7)).block, off := (ad.add (j * 7)).off + 2 } = some (.int .u8 (yk : Int)) := (bz.cell (by exact hadb)).trans (z1 1 _ rfl)
                        have q3 : wr.cell? { block := (ad.add (j * 7)).block, off := (ad.add (j * 7)).off + 3 } = some (.string ⟨ys.toArray⟩) := (bz.cell (by exact hadb)).trans (z1 2 _ rfl)
                        have q4 : wr.cell? { block := (ad.add (j * 7)).block, off := (ad.add (j * 7)).off + 4 } = some (.string ⟨yt.toArray⟩) := (bz.cell (by exact hadb)).trans (z1 3 _ rfl)
                        have q5 : wr.cell? { block := (ad.add (j * 7)).block, off := (ad.add (j * 7)).off + 5 } = some (.string ⟨yu.toArray⟩) := (bz.cell (by exact hadb)).trans (z1 4 _ rfl)
                        have q6 : wr.cell? { block := (ad.add (j * 7)).block, off := (ad.add (j * 7)).off + 6 } = some (.int .u8 (yz : Int)) := (bz.cell (by exact hadb)).trans (z1 5 _ rfl)
                        unfold cmC at happ hba ho2 hnew
                        dsimp only at happ hba ho2 hnew
                        have HO := Lib.hid (And.intro ho7 bz7)
                        clear hes hji hy ho z0 z1 hnew hba ho2 hlj ho7 bz7 hg7
                        go_wp2_with (refine wpList_run_append (by rfl) (.tmp 152) (.tmp 157) 30 (by rfl) (by rfl) (by rfl) happ ?_)
                        clear q0 q1 q2 q3 q4 q5 q6 happ
                        go_roundg (n - (j + 1))
                        case measure => omega
                        case rel => exact ⟨j + 1, r', by omega, by go_num, rfl, HO.out.1, HO.out.2⟩
                    · have hk6 : ¬ (j : Int) < (n : Int) := by omega
                      obtain rfl : n = j := by omega
                      rw [List.take_of_length_le (by rw [HN.out]; omega)] at ho
                      rw [List.eraseIdx_of_length_le (by rw [HN.out]; omega)] at ho
                      have hb := hb.below bz hb.lt
                      have hnew := cm_row (Blk.new wr 36 (cmC ⟨xa, xb, xk, xs, xt, xu, xz⟩))
                      have hba : Below w6.heap.size w6 (wr.alloc (.cells (cmC ⟨xa, xb, xk, xs, xt, xu, xz⟩) 36)) := bz.alloc bz.size _
                      have ho2 : (wr.alloc (.cells (cmC ⟨xa, xb, xk, xs, xt, xu, xz⟩) 36)).ownsRow w6.heap.size 36 7 r _ _ := own_below (h0 := wr.heap.size) ho ((Below.refl _ wr).alloc (Nat.le_refl _) _) (fun q hq => (ho.lt q hq).2)
                      have hml : m.length ≤ n := by rw [HN.out]; omega
                      obtain ⟨r', w7, happ, ho7, hg7, _⟩ := app_any (base := w6.heap.size) hba.size ho2 hnew (c := 1) (by simp only [List.length_cons, List.length_nil]; omega) 30
                      have bz7 := hba.grown hg7 hba.size (fun q hq => (ho.lt q hq).1)
                      obtain ⟨A', c', hr', hc', F'⟩ := (HW.out.below bz7).want HW.out ho7
                      subst hr'
                      obtain ⟨n', hn'⟩ : ∃ n', (m ++ [(⟨xa, xb, xk, xs, xt, xu, xz⟩ : Cm)]).length = n' := ⟨_, rfl⟩
                      rw [hn'] at happ hc'
                      have HN2 := Lib.hid hn'
                      have hlg2 : lg.length + n' ≤ k + 1 := by rw [← hn', List.length_append]; simp only [List.length_cons, List.length_nil]; have := HLG.out; omega
                      have HLG2 := Lib.hid hlg2
                      clear hn' hlg2
                      unfold cmC at happ hba ho2 hnew
                      dsimp only at happ hba ho2 hnew
                      have HF := Lib.hid (And.intro F' (And.intro hc' hml))
                      clear ho hnew hba ho2 ho7 bz7 hg7 F' hc' hml
                      have y2 := hb.cell 2
                      have y3 := hb.cell 3
                      have y4 := hb.cell 4
                      have y5 := hb.cell 5
                      have y6 := hb.cell 6
                      have y7 := hb.cell 7
                      have y8 := hb.cell 8
                      go_wp2_with (refine wpList_run_append (by rfl) (.tmp 159) (.tmp 162) 30 (by rfl) (by rfl) (by rfl) happ ?_)
                      go_roundg (ln - (k + 1))
                      case measure => omega
                      case rel => exact ⟨k + 1, n', m ++ [⟨xa, xb, xk, xs, xt, xu, xz⟩], v', A', c', u, lg, by omega, by go_num, rfl, rfl, HN2, HF.out.2.1, HLG2, HGD2, HF.out.1⟩
            | some i =>
              have hwas := HWAS.out
              rw [findI_some hfn] at hwas
              subst hwas
              have hil := find_lt hfn
              obtain ⟨x, hx, _⟩ := find_at hfn
              rw [hfn] at hput
              simp only [hx] at hput
              obtain ⟨ad, rfl, hadl, _, z1⟩ := F.rf.r.at_ hx
              have c1 : wp.cell? { block := (ad.add (i * 7)).block, off := (ad.add (i * 7)).off + 1 } = some (.int .u32 (x.seq : Int)) := z1 0 _ rfl
              have b1 : (ad.add (i * 7)).block < wp.heap.size := by rw [block_of_add]; exact hadl
              have f1 : Far wp g v (ad.add (i * 7)).block := by rw [block_of_add]; exact F.rf.f (fun e => by rw [e] at hx; simp at hx) ad rfl
              have hni : (i : Int) < (n : Int) := by have := HN.out; omega
              have hi0 : ¬ (i : Int) < 0 := by omega
              have hi1 : 0 ≤ (i : Int) := by omega
              generalize x.seq = xq at *
              clear z1 hadl hx hfn
              by_cases q1 : xb < xq
              · rw [if_pos q1] at hput
                subst hput
                have hq1 : ¬ (xq : Int) ≤ (xb : Int) := by omega
                go_wp2_with fail
                refine HP.out.mono ?_; rintro e w4 ⟨rfl, v', q', s⟩
                have c1 := (s.cell (by exact f1)).trans c1
                have b1 := Nat.lt_of_lt_of_le b1 s.out.size
                have F := F.step HBB.out s q'
                have hb := s.blk fb hb
                clear y2 y3 y4 y5 y6 y7 y8 HP s q' fb f1
                go_upto_region 22 with fail
                have hbd : Blk w4.drew gb 73 #[.int .u8 (xd : Int), .int .i64 xn, .int .u8 (xa : Int), .int .u32 (xb : Int), .int .u8 (xk : Int), .string ⟨xs.toArray⟩, .string ⟨xt.toArray⟩, .string ⟨xu.toArray⟩, .int .u8 (xz : Int)] := hb
                have FD : OF w B g _ _ _ _ _ _ w4.drew := F.below (below_drewN (Below.refl _ _) 1)
                have c1d : w4.drew.cell? { block := (ad.add (i * 7)).block, off := (ad.add (i * 7)).off + 1 } = some (.int .u32 (xq : Int)) := c1
                have b1d : (ad.add (i * 7)).block < w4.drew.heap.size := b1
                clear hb F c1 b1
                refine region_inv2 (by kernel_rfl) [] [(90, .int .i64 12), (91, .bool true), (92, .bool true), (93, .int .i64 (i : Int)), (94, .bool false), (95, .bool false), (96, .slice (some ad) n c), (97, .int .i64 (i : Int)), (98, .pointer (some (ad.add (i * 7)))), (99, .pointer (some { block := (ad.add (i * 7)).block, off := (ad.add (i * 7)).off + 1 })), (100, .int .u32 (xq : Int)), (101, .pointer (some ⟨gb, 2, none⟩)), (102, .pointer (some ⟨gb, 3, none⟩)), (103, .int .u32 (xb : Int)), (104, .bool false), (105, .bool false), (106, .bool false), (107, .bool false), (108, .int .i64 12), (109, .bool false), (110, .bool false), (111, undef), (112, undef), (113, .bool false), (114, .bool false), (115, undef), (116, undef), (117, undef), (118, undef), (119, undef), (120, undef), (121, undef), (122, undef), (123, undef), (124, .bool false), (125, .bool false)] (by kernel_rfl) (by kernel_rfl) rfl (by kernel_rfl) ?_ ?_ ?_
                · intro q hq; cases hq
                · refine And.intro ?_ ?_
                  · intro d hd ρ W hcs bw hn hg
                    cases hd
                    have e11 : ρ (.tmp 11) = .int .i64 12 := hn 11 (by decide)
                    clear hn hg
                    refine .inl ⟨trivial, ?_⟩
                    refine .inl ⟨_, W, rfl, e11, Below.refl _ _⟩
                  refine And.intro ?_ ?_
                  · intro d hd ρ W hcs bw hn hg
                    cases hd
                    have e90 : ρ (.tmp 90) = .int .i64 12 := hn 90 (by decide)
                    clear hn hg
                    refine .inl ⟨trivial, ?_⟩
                    have hc1 := hcs.1
                    refine .inl ⟨.bool true, W, ?_, rfl, Below.refl _ _⟩
                    go_simp
                  refine And.intro ?_ ?_
                  · intro d hd ρ W hcs bw hn hg
                    cases hd
                    have e91 : ρ (.tmp 91) = .bool true := hn 91 (by decide)
                    clear hn hg
                    refine .inl ⟨trivial, ?_⟩
                    refine .inl ⟨_, W, rfl, e91, Below.refl _ _⟩
                  refine And.intro ?_ ?_
                  · intro d hd ρ W hcs bw hn hg
                    cases hd
                    have eg : ρ (.tmp 92) = .bool true := hg _ _ _ _ rfl rfl rfl
                    have e9 : ρ (.tmp 9) = .int .i64 (i : Int) := hn 9 (by decide)
                    clear hn hg
                    refine .inl ⟨⟨_, _, rfl, rfl, eg⟩, ?_⟩
                    refine .inl ⟨_, W, rfl, e9, Below.refl _ _⟩
                  refine And.intro ?_ ?_
                  · intro d hd ρ W hcs bw hn hg
                    cases hd
                    have eg : ρ (.tmp 92) = .bool true := hg _ _ _ _ rfl rfl rfl
                    have e93 : ρ (.tmp 93) = .int .i64 (i : Int) := hn 93 (by decide)
                    clear hn hg
                    refine .inl ⟨⟨_, _, rfl, rfl, eg⟩, ?_⟩
                    have hc1 := hcs.1
                    refine .inl ⟨.bool false, W, ?_, rfl, Below.refl _ _⟩
                    go_simp
                  refine And.intro ?_ ?_
                  · intro d hd ρ W hcs bw hn hg
                    cases hd
                    have eg : ρ (.tmp 92) = .bool true := hg _ _ _ _ rfl rfl rfl
                    have e94 : ρ (.tmp 94) = .bool false := hn 94 (by decide)
                    clear hn hg
                    refine .inl ⟨⟨_, _, rfl, rfl, eg⟩, ?_⟩
                    refine .inl ⟨_, W, rfl, e94, Below.refl _ _⟩
                  refine And.intro ?_ ?_
                  · intro d hd ρ W hcs bw hn hg
                    cases hd
                    have eg : ρ (.tmp 95) = .bool false := hg _ _ _ _ rfl rfl rfl
                    have e4 : ρ (.tmp 4) = .slice (some ad) n c := hn 4 (by decide)
                    clear hn hg
                    refine .inl ⟨⟨_, _, rfl, rfl, eg⟩, ?_⟩
                    refine .inl ⟨_, W, rfl, e4, Below.refl _ _⟩
                  refine And.intro ?_ ?_
                  · intro d hd ρ W hcs bw hn hg
                    cases hd
                    have eg : ρ (.tmp 95) = .bool false := hg _ _ _ _ rfl rfl rfl
                    have e9 : ρ (.tmp 9) = .int .i64 (i : Int) := hn 9 (by decide)
                    clear hn hg
                    refine .inl ⟨⟨_, _, rfl, rfl, eg⟩, ?_⟩
                    refine .inl ⟨_, W, rfl, e9, Below.refl _ _⟩
                  refine And.intro ?_ ?_
                  · intro d hd ρ W hcs bw hn hg
                    cases hd
                    have eg : ρ (.tmp 95) = .bool false := hg _ _ _ _ rfl rfl rfl
                    have e96 : ρ (.tmp 96) = .slice (some ad) n c := hn 96 (by decide)
                    have e97 : ρ (.tmp 97) = .int .i64 (i : Int) := hn 97 (by decide)
                    clear hn hg
                    refine .inl ⟨⟨_, _, rfl, rfl, eg⟩, ?_⟩
                    refine .inl ⟨.pointer (some (ad.add (i * 7))), W, ?_, rfl, Below.refl _ _⟩
                    go_simp
                  refine And.intro ?_ ?_
                  · intro d hd ρ W hcs bw hn hg
                    cases hd
                    have eg : ρ (.tmp 95) = .bool false := hg _ _ _ _ rfl rfl rfl
                    have e98 : ρ (.tmp 98) = .pointer (some (ad.add (i * 7))) := hn 98 (by decide)
                    clear hn hg
                    refine .inl ⟨⟨_, _, rfl, rfl, eg⟩, ?_⟩
                    refine .inl ⟨.pointer (some { block := (ad.add (i * 7)).block, off := (ad.add (i * 7)).off + 1 }), W, ?_, rfl, Below.refl _ _⟩
                    go_simp
                  refine And.intro ?_ ?_
                  · intro d hd ρ W hcs bw hn hg
                    cases hd
                    have eg : ρ (.tmp 95) = .bool false := hg _ _ _ _ rfl rfl rfl
                    have e99 : ρ (.tmp 99) = .pointer (some { block := (ad.add (i * 7)).block, off := (ad.add (i * 7)).off + 1 }) := hn 99 (by decide)
                    clear hn hg
                    refine .inl ⟨⟨_, _, rfl, rfl, eg⟩, ?_⟩
                    have z0 : W.cell? { block := (ad.add (i * 7)).block, off := (ad.add (i * 7)).off + 1 } = some (.int .u32 (xq : Int)) := (bw.cell (by exact b1d)).trans c1d
                    refine .inl ⟨.int .u32 (xq : Int), W, ?_, rfl, Below.refl _ _⟩
                    go_simp
                  refine And.intro ?_ ?_
                  · intro d hd ρ W hcs bw hn hg
                    cases hd
                    have eg : ρ (.tmp 95) = .bool false := hg _ _ _ _ rfl rfl rfl
                    have e7 : ρ (.tmp 7) = .pointer (some ⟨gb, 0, none⟩) := hn 7 (by decide)
                    clear hn hg
                    refine .inl ⟨⟨_, _, rfl, rfl, eg⟩, ?_⟩
                    refine .inl ⟨.pointer (some ⟨gb, 2, none⟩), W, ?_, rfl, Below.refl _ _⟩
                    go_simp
                  refine And.intro ?_ ?_
                  · intro d hd ρ W hcs bw hn hg
                    cases hd
                    have eg : ρ (.tmp 95) = .bool false := hg _ _ _ _ rfl rfl rfl
                    have e101 : ρ (.tmp 101) = .pointer (some ⟨gb, 2, none⟩) := hn 101 (by decide)
                    clear hn hg
                    refine .inl ⟨⟨_, _, rfl, rfl, eg⟩, ?_⟩
                    refine .inl ⟨.pointer (some ⟨gb, 3, none⟩), W, ?_, rfl, Below.refl _ _⟩
                    go_simp
                  refine And.intro ?_ ?_
                  · intro d hd ρ W hcs bw hn hg
                    cases hd
                    have eg : ρ (.tmp 95) = .bool false := hg _ _ _ _ rfl rfl rfl
                    have e102 : ρ (.tmp 102) = .pointer (some ⟨gb, 3, none⟩) := hn 102 (by decide)
                    clear hn hg
                    refine .inl ⟨⟨_, _, rfl, rfl, eg⟩, ?_⟩
                    have z0 : W.cell? ⟨gb, 3, none⟩ = some (.int .u32 (xb : Int)) := (Blk.below hbd bw (Blk.lt hbd)).cell 3
                    refine .inl ⟨.int .u32 (xb : Int), W, ?_, rfl, Below.refl _ _⟩
                    go_simp
                  refine And.intro ?_ ?_
                  · intro d hd ρ W hcs bw hn hg
                    cases hd
                    have eg : ρ (.tmp 95) = .bool false := hg _ _ _ _ rfl rfl rfl
                    have e100 : ρ (.tmp 100) = .int .u32 (xq : Int) := hn 100 (by decide)
                    have e103 : ρ (.tmp 103) = .int .u32 (xb : Int) := hn 103 (by decide)
                    clear hn hg
                    refine .inl ⟨⟨_, _, rfl, rfl, eg⟩, ?_⟩
                    refine .inl ⟨.bool false, W, ?_, rfl, Below.refl _ _⟩
                    go_simp
                  refine And.intro ?_ ?_
                  · intro d hd ρ W hcs bw hn hg
                    cases hd
                    have eg : ρ (.tmp 92) = .bool true := hg _ _ _ _ rfl rfl rfl
                    have e95 : ρ (.tmp 95) = .bool false := hn 95 (by decide)
                    have e104 : ρ (.tmp 104) = .bool false := hn 104 (by decide)
                    clear hn hg
                    refine .inl ⟨⟨_, _, rfl, rfl, eg⟩, ?_⟩
                    have hc1 := hcs.1
                    refine .inl ⟨.bool false, W, ?_, rfl, Below.refl _ _⟩
                    go_simp
                  refine And.intro ?_ ?_
                  · intro d hd ρ W hcs bw hn hg
                    cases hd
                    have e92 : ρ (.tmp 92) = .bool true := hn 92 (by decide)
                    have e105 : ρ (.tmp 105) = .bool false := hn 105 (by decide)
                    clear hn hg
                    refine .inl ⟨trivial, ?_⟩
                    have hc1 := hcs.1
                    refine .inl ⟨.bool false, W, ?_, rfl, Below.refl _ _⟩
                    go_simp
                  refine And.intro ?_ ?_
                  · intro d hd ρ W hcs bw hn hg
                    cases hd
                    have e106 : ρ (.tmp 106) = .bool false := hn 106 (by decide)
                    clear hn hg
                    refine .inl ⟨trivial, ?_⟩
                    refine .inl ⟨_, W, rfl, e106, Below.refl _ _⟩
                  refine And.intro ?_ ?_
                  · intro d hd ρ W hcs bw hn hg
                    cases hd
                    have eg : ρ (.tmp 107) = .bool false := hg _ _ _ _ rfl rfl rfl
                    have e11 : ρ (.tmp 11) = .int .i64 12 := hn 11 (by decide)
                    clear hn hg
                    refine .inl ⟨⟨_, _, rfl, rfl, eg⟩, ?_⟩
                    refine .inl ⟨_, W, rfl, e11, Below.refl _ _⟩
                  refine And.intro ?_ ?_
                  · intro d hd ρ W hcs bw hn hg
                    cases hd
                    have eg : ρ (.tmp 107) = .bool false := hg _ _ _ _ rfl rfl rfl
                    have e108 : ρ (.tmp 108) = .int .i64 12 := hn 108 (by decide)
                    clear hn hg
                    refine .inl ⟨⟨_, _, rfl, rfl, eg⟩, ?_⟩
                    have hc1 := hcs.1
                    refine .inl ⟨.bool false, W, ?_, rfl, Below.refl _ _⟩
                    go_simp
                  refine And.intro ?_ ?_
                  · intro d hd ρ W hcs bw hn hg
                    cases hd
                    have eg : ρ (.tmp 107) = .bool false := hg _ _ _ _ rfl rfl rfl
                    have e109 : ρ (.tmp 109) = .bool false := hn 109 (by decide)
                    clear hn hg
                    refine .inl ⟨⟨_, _, rfl, rfl, eg⟩, ?_⟩
                    refine .inl ⟨_, W, rfl, e109, Below.refl _ _⟩
                  refine And.intro ?_ ?_
                  · intro d hd ρ W hcs bw hn hg
                    cases hd
                    have eg : ρ (.tmp 110) = .bool false := hg _ _ _ _ rfl rfl rfl
                    exact .inr ⟨⟨_, _, _, rfl, rfl, eg, nofun⟩, rfl⟩
                  refine And.intro ?_ ?_
                  · intro d hd ρ W hcs bw hn hg
                    cases hd
                    have eg : ρ (.tmp 110) = .bool false := hg _ _ _ _ rfl rfl rfl
                    exact .inr ⟨⟨_, _, _, rfl, rfl, eg, nofun⟩, rfl⟩
                  refine And.intro ?_ ?_
                  · intro d hd ρ W hcs bw hn hg
                    cases hd
                    have eg : ρ (.tmp 107) = .bool false := hg _ _ _ _ rfl rfl rfl
                    have e110 : ρ (.tmp 110) = .bool false := hn 110 (by decide)
                    have e112 : ρ (.tmp 112) = undef := hn 112 (by decide)
                    clear hn hg
                    refine .inl ⟨⟨_, _, rfl, rfl, eg⟩, ?_⟩
                    have hc1 := hcs.1
                    refine .inl ⟨.bool false, W, ?_, rfl, Below.refl _ _⟩
                    go_simp
                  refine And.intro ?_ ?_
                  · intro d hd ρ W hcs bw hn hg
                    cases hd
                    have eg : ρ (.tmp 107) = .bool false := hg _ _ _ _ rfl rfl rfl
                    have e113 : ρ (.tmp 113) = .bool false := hn 113 (by decide)
                    clear hn hg
                    refine .inl ⟨⟨_, _, rfl, rfl, eg⟩, ?_⟩
                    refine .inl ⟨_, W, rfl, e113, Below.refl _ _⟩
                  refine And.intro ?_ ?_
                  · intro d hd ρ W hcs bw hn hg
                    cases hd
                    have eg : ρ (.tmp 114) = .bool false := hg _ _ _ _ rfl rfl rfl
                    exact .inr ⟨⟨_, _, _, rfl, rfl, eg, nofun⟩, rfl⟩
                  refine And.intro ?_ ?_
                  · intro d hd ρ W hcs bw hn hg
                    cases hd
                    have eg : ρ (.tmp 114) = .bool false := hg _ _ _ _ rfl rfl rfl
                    exact .inr ⟨⟨_, _, _, rfl, rfl, eg, nofun⟩, rfl⟩
                  refine And.intro ?_ ?_
                  · intro d hd ρ W hcs bw hn hg
                    cases hd
                    have eg : ρ (.tmp 114) = .bool false := hg _ _ _ _ rfl rfl rfl
                    exact .inr ⟨⟨_, _, _, rfl, rfl, eg, nofun⟩, rfl⟩
                  refine And.intro ?_ ?_
                  · intro d hd ρ W hcs bw hn hg
                    cases hd
                    have eg : ρ (.tmp 114) = .bool false := hg _ _ _ _ rfl rfl rfl
                    exact .inr ⟨⟨_, _, _, rfl, rfl, eg, nofun⟩, rfl⟩
                  refine And.intro ?_ ?_
                  · intro d hd ρ W hcs bw hn hg
                    cases hd
                    have eg : ρ (.tmp 114) = .bool false := hg _ _ _ _ rfl rfl rfl
                    exact .inr ⟨⟨_, _, _, rfl, rfl, eg, nofun⟩, rfl⟩
                  refine And.intro ?_ ?_
                  · intro d hd ρ W hcs bw hn hg
                    cases hd
                    have eg : ρ (.tmp 114) = .bool false := hg _ _ _ _ rfl rfl rfl
                    exact .inr ⟨⟨_, _, _, rfl, rfl, eg, nofun⟩, rfl⟩
                  refine And.intro ?_ ?_
                  · intro d hd ρ W hcs bw hn hg
                    cases hd
                    have eg : ρ (.tmp 114) = .bool false := hg _ _ _ _ rfl rfl rfl
                    exact .inr ⟨⟨_, _, _, rfl, rfl, eg, nofun⟩, rfl⟩
                  refine And.intro ?_ ?_
                  · intro d hd ρ W hcs bw hn hg
                    cases hd
                    have eg : ρ (.tmp 114) = .bool false := hg _ _ _ _ rfl rfl rfl
                    exact .inr ⟨⟨_, _, _, rfl, rfl, eg, nofun⟩, rfl⟩
                  refine And.intro ?_ ?_
                  · intro d hd ρ W hcs bw hn hg
                    cases hd
                    have eg : ρ (.tmp 114) = .bool false := hg _ _ _ _ rfl rfl rfl
                    exact .inr ⟨⟨_, _, _, rfl, rfl, eg, nofun⟩, rfl⟩
                  refine And.intro ?_ ?_
                  · intro d hd ρ W hcs bw hn hg
                    cases hd
                    have eg : ρ (.tmp 107) = .bool false := hg _ _ _ _ rfl rfl rfl
                    have e114 : ρ (.tmp 114) = .bool false := hn 114 (by decide)
                    have e123 : ρ (.tmp 123) = undef := hn 123 (by decide)
                    clear hn hg
                    refine .inl ⟨⟨_, _, rfl, rfl, eg⟩, ?_⟩
                    have hc1 := hcs.1
                    refine .inl ⟨.bool false, W, ?_, rfl, Below.refl _ _⟩
                    go_simp
                  refine And.intro ?_ ?_
                  · intro d hd ρ W hcs bw hn hg
                    cases hd
                    have e107 : ρ (.tmp 107) = .bool false := hn 107 (by decide)
                    have e124 : ρ (.tmp 124) = .bool false := hn 124 (by decide)
                    clear hn hg
                    refine .inl ⟨trivial, ?_⟩
                    have hc1 := hcs.1
                    refine .inl ⟨.bool false, W, ?_, rfl, Below.refl _ _⟩
                    go_simp
                  trivial
                · intro a' w' hsz hdf hb hVs
                  have q125 : a'.eval (.tmp 125) = .bool false := hVs 125
                  have ha := slot_over_seg 90 36 [] rfl (by kernel_rfl) (of_decide_eq_true (by kernel_rfl)) hsz hdf hVs
                  clear hVs hsz hdf
                  rw [show List.range' 90 36 = [90, 91, 92, 93, 94, 95, 96, 97, 98, 99, 100, 101, 102, 103, 104, 105, 106, 107, 108, 109, 110, 111, 112, 113, 114, 115, 116, 117, 118, 119, 120, 121, 122, 123, 124, 125] from rfl] at ha
                  simp only [List.take_succ_cons, List.take_zero, List.drop_succ_cons, List.drop_zero, List.map_cons, List.map_nil, List.cons_append, List.nil_append, List.foldl_cons, List.foldl_nil, List.set_cons_zero, List.set_cons_succ, q125] at ha
                  clear q125
                  generalize a'.eval (.tmp 90) = x90 at ha
                  generalize a'.eval (.tmp 91) = x91 at ha
                  generalize a'.eval (.tmp 92) = x92 at ha
                  generalize a'.eval (.tmp 93) = x93 at ha
                  generalize a'.eval (.tmp 94) = x94 at ha
                  generalize a'.eval (.tmp 95) = x95 at ha
                  generalize a'.eval (.tmp 96) = x96 at ha
                  generalize a'.eval (.tmp 97) = x97 at ha
                  generalize a'.eval (.tmp 98) = x98 at ha
                  generalize a'.eval (.tmp 99) = x99 at ha
                  generalize a'.eval (.tmp 100) = x100 at ha
                  generalize a'.eval (.tmp 101) = x101 at ha
                  generalize a'.eval (.tmp 102) = x102 at ha
                  generalize a'.eval (.tmp 103) = x103 at ha
                  generalize a'.eval (.tmp 104) = x104 at ha
                  generalize a'.eval (.tmp 105) = x105 at ha
                  generalize a'.eval (.tmp 106) = x106 at ha
                  generalize a'.eval (.tmp 107) = x107 at ha
                  generalize a'.eval (.tmp 108) = x108 at ha
                  generalize a'.eval (.tmp 109) = x109 at ha
                  generalize a'.eval (.tmp 110) = x110 at ha
                  generalize a'.eval (.tmp 111) = x111 at ha
                  generalize a'.eval (.tmp 112) = x112 at ha
                  generalize a'.eval (.tmp 113) = x113 at ha
                  generalize a'.eval (.tmp 114) = x114 at ha
                  generalize a'.eval (.tmp 115) = x115 at ha
                  generalize a'.eval (.tmp 116) = x116 at ha
                  generalize a'.eval (.tmp 117) = x117 at ha
                  generalize a'.eval (.tmp 118) = x118 at ha
                  generalize a'.eval (.tmp 119) = x119 at ha
                  generalize a'.eval (.tmp 120) = x120 at ha
                  generalize a'.eval (.tmp 121) = x121 at ha
                  generalize a'.eval (.tmp 122) = x122 at ha
                  generalize a'.eval (.tmp 123) = x123 at ha
                  generalize a'.eval (.tmp 124) = x124 at ha
                  subst ha
                  have c1 := (hb.cell (by exact b1d)).trans c1d
                  have b1 := Nat.lt_of_lt_of_le b1d hb.size
                  have F := FD.below hb
                  have hb2 := hbd.below hb hbd.lt
                  clear FD hbd hb c1d b1d
                  have hb := hb2
                  clear hb2
                  obtain ⟨w5, hw5⟩ : ∃ w5 : World, w5 = w' := ⟨_, rfl⟩
                  rw [← hw5] at F hb c1 b1 ⊢
                  clear hw5
                  go_upto_region 24 with fail
                  have hbd : Blk w5.drew gb 73 #[.int .u8 (xd : Int), .int .i64 xn, .int .u8 (xa : Int), .int .u32 (xb : Int), .int .u8 (xk : Int), .string ⟨xs.toArray⟩, .string ⟨xt.toArray⟩, .string ⟨xu.toArray⟩, .int .u8 (xz : Int)] := hb
                  have FD : OF w B g _ _ _ _ _ _ w5.drew := F.below (below_drewN (Below.refl _ _) 1)
                  have c1d : w5.drew.cell? { block := (ad.add (i * 7)).block, off := (ad.add (i * 7)).off + 1 } = some (.int .u32 (xq : Int)) := c1
                  have b1d : (ad.add (i * 7)).block < w5.drew.heap.size := b1
                  clear hb F c1 b1
                  refine region_inv2 (by kernel_rfl) [] [(126, .int .i64 12), (127, .bool false), (128, .bool false), (129, undef), (130, undef), (131, undef), (132, undef), (133, undef), (134, undef), (135, undef), (136, undef), (137, undef), (138, undef), (139, undef), (140, undef), (141, undef), (142, .bool false)] (by kernel_rfl) (by kernel_rfl) rfl (by kernel_rfl) ?_ ?_ ?_
                  · intro q hq; cases hq
                  · refine And.intro ?_ ?_
                    · intro d hd ρ W hcs bw hn hg
                      cases hd
                      have e11 : ρ (.tmp 11) = .int .i64 12 := hn 11 (by decide)
                      clear hn hg
                      refine .inl ⟨trivial, ?_⟩
                      refine .inl ⟨_, W, rfl, e11, Below.refl _ _⟩
                    refine And.intro ?_ ?_
                    · intro d hd ρ W hcs bw hn hg
                      cases hd
                      have e126 : ρ (.tmp 126) = .int .i64 12 := hn 126 (by decide)
                      clear hn hg
                      refine .inl ⟨trivial, ?_⟩
                      have hc1 := hcs.1
                      refine .inl ⟨.bool false, W, ?_, rfl, Below.refl _ _⟩
                      go_simp
                    refine And.intro ?_ ?_
                    · intro d hd ρ W hcs bw hn hg
                      cases hd
                      have e127 : ρ (.tmp 127) = .bool false := hn 127 (by decide)
                      clear hn hg
                      refine .inl ⟨trivial, ?_⟩
                      refine .inl ⟨_, W, rfl, e127, Below.refl _ _⟩
                    refine And.intro ?_ ?_
                    · intro d hd ρ W hcs bw hn hg
                      cases hd
                      have eg : ρ (.tmp 128) = .bool false := hg _ _ _ _ rfl rfl rfl
                      exact .inr ⟨⟨_, _, _, rfl, rfl, eg, nofun⟩, rfl⟩
                    refine And.intro ?_ ?_
                    · intro d hd ρ W hcs bw hn hg
                      cases hd
                      have eg : ρ (.tmp 128) = .bool false := hg _ _ _ _ rfl rfl rfl
                      exact .inr ⟨⟨_, _, _, rfl, rfl, eg, nofun⟩, rfl⟩
                    refine And.intro ?_ ?_
                    · intro d hd ρ W hcs bw hn hg
                      cases hd
                      have eg : ρ (.tmp 128) = .bool false := hg _ _ _ _ rfl rfl rfl
                      exact .inr ⟨⟨_, _, _, rfl, rfl, eg, nofun⟩, rfl⟩
                    refine And.intro ?_ ?_
                    · intro d hd ρ W hcs bw hn hg
                      cases hd
                      have eg : ρ (.tmp 131) = undef := hg _ _ _ _ rfl rfl rfl
                      exact .inr ⟨⟨_, _, _, rfl, rfl, eg, nofun⟩, rfl⟩
                    refine And.intro ?_ ?_
                    · intro d hd ρ W hcs bw hn hg
                      cases hd
                      have eg : ρ (.tmp 131) = undef := hg _ _ _ _ rfl rfl rfl
                      exact .inr ⟨⟨_, _, _, rfl, rfl, eg, nofun⟩, rfl⟩
                    refine And.intro ?_ ?_
                    · intro d hd ρ W hcs bw hn hg
                      cases hd
                      have eg : ρ (.tmp 131) = undef := hg _ _ _ _ rfl rfl rfl
                      exact .inr ⟨⟨_, _, _, rfl, rfl, eg, nofun⟩, rfl⟩
                    refine And.intro ?_ ?_
                    · intro d hd ρ W hcs bw hn hg
                      cases hd
                      have eg : ρ (.tmp 131) = undef := hg _ _ _ _ rfl rfl rfl
                      exact .inr ⟨⟨_, _, _, rfl, rfl, eg, nofun⟩, rfl⟩
                    refine And.intro ?_ ?_
                    · intro d hd ρ W hcs bw hn hg
                      cases hd
                      have eg : ρ (.tmp 131) = undef := hg _ _ _ _ rfl rfl rfl
                      exact .inr ⟨⟨_, _, _, rfl, rfl, eg, nofun⟩, rfl⟩
                    refine And.intro ?_ ?_
                    · intro d hd ρ W hcs bw hn hg
                      cases hd
                      have eg : ρ (.tmp 131) = undef := hg _ _ _ _ rfl rfl rfl
                      exact .inr ⟨⟨_, _, _, rfl, rfl, eg, nofun⟩, rfl⟩
                    refine And.intro ?_ ?_
                    · intro d hd ρ W hcs bw hn hg
                      cases hd
                      have eg : ρ (.tmp 131) = undef := hg _ _ _ _ rfl rfl rfl
                      exact .inr ⟨⟨_, _, _, rfl, rfl, eg, nofun⟩, rfl⟩
                    refine And.intro ?_ ?_
                    · intro d hd ρ W hcs bw hn hg
                      cases hd
                      have eg : ρ (.tmp 131) = undef := hg _ _ _ _ rfl rfl rfl
                      exact .inr ⟨⟨_, _, _, rfl, rfl, eg, nofun⟩, rfl⟩
                    refine And.intro ?_ ?_
                    · intro d hd ρ W hcs bw hn hg
                      cases hd
                      have eg : ρ (.tmp 131) = undef := hg _ _ _ _ rfl rfl rfl
                      exact .inr ⟨⟨_, _, _, rfl, rfl, eg, nofun⟩, rfl⟩
                    refine And.intro ?_ ?_
                    · intro d hd ρ W hcs bw hn hg
                      cases hd
                      have eg : ρ (.tmp 128) = .bool false := hg _ _ _ _ rfl rfl rfl
                      exact .inr ⟨⟨_, _, _, rfl, rfl, eg, nofun⟩, rfl⟩
                    refine And.intro ?_ ?_
                    · intro d hd ρ W hcs bw hn hg
                      cases hd
                      have e128 : ρ (.tmp 128) = .bool false := hn 128 (by decide)
                      have e141 : ρ (.tmp 141) = undef := hn 141 (by decide)
                      clear hn hg
                      refine .inl ⟨trivial, ?_⟩
                      have hc1 := hcs.1
                      refine .inl ⟨.bool false, W, ?_, rfl, Below.refl _ _⟩
                      go_simp
                    trivial
                  · intro a' w' hsz hdf hb hVs
                    have q142 : a'.eval (.tmp 142) = .bool false := hVs 142
                    have ha := slot_over_seg 126 17 [] rfl (by kernel_rfl) (of_decide_eq_true (by kernel_rfl)) hsz hdf hVs
                    clear hVs hsz hdf
                    rw [show List.range' 126 17 = [126, 127, 128, 129, 130, 131, 132, 133, 134, 135, 136, 137, 138, 139, 140, 141, 142] from rfl] at ha
                    simp only [List.take_succ_cons, List.take_zero, List.drop_succ_cons, List.drop_zero, List.map_cons, List.map_nil, List.cons_append, List.nil_append, List.foldl_cons, List.foldl_nil, List.set_cons_zero, List.set_cons_succ, q142] at ha
                    clear q142
                    generalize a'.eval (.tmp 126) = x126 at ha
                    generalize a'.eval (.tmp 127) = x127 at ha
                    generalize a'.eval (.tmp 128) = x128 at ha
                    generalize a'.eval (.tmp 129) = x129 at ha
                    generalize a'.eval (.tmp 130) = x130 at ha
                    generalize a'.eval (.tmp 131) = x131 at ha
                    generalize a'.eval (.tmp 132) = x132 at ha
                    generalize a'.eval (.tmp 133) = x133 at ha
                    generalize a'.eval (.tmp 134) = x134 at ha
                    generalize a'.eval (.tmp 135) = x135 at ha
                    generalize a'.eval (.tmp 136) = x136 at ha
                    generalize a'.eval (.tmp 137) = x137 at ha
                    generalize a'.eval (.tmp 138) = x138 at ha
                    generalize a'.eval (.tmp 139) = x139 at ha
                    generalize a'.eval (.tmp 140) = x140 at ha
                    generalize a'.eval (.tmp 141) = x141 at ha
                    subst ha
                    have c1 := (hb.cell (by exact b1d)).trans c1d
                    have b1 := Nat.lt_of_lt_of_le b1d hb.size
                    have F := FD.below hb
                    have hb2 := hbd.below hb hbd.lt
                    clear FD hbd hb c1d b1d
                    have hb := hb2
                    clear hb2
                    obtain ⟨w6, hw5⟩ : ∃ w6 : World, w6 = w' := ⟨_, rfl⟩
                    rw [← hw5] at F hb c1 b1 ⊢
                    clear hw5
                    have HF := Lib.hid F
                    have HGD2 := Lib.hid hgd2
                    clear F hb hgd2 c1 b1
                    have HLG2 : Hid (lg.length + n ≤ k + 1) := Nat.le_succ_of_le HLG.out
                    go_wp2_with fail
                    go_roundg (ln - (k + 1))
                    case measure => omega
                    case rel => exact ⟨k + 1, n, m, v', _, c, u, lg, by omega, by go_num, rfl, rfl, HN, HNC, HLG2, HGD2.out, HF.out⟩
              rw [if_neg q1] at hput
              by_cases q2 : xq = xb
              · rw [if_pos q2] at hput
                subst hput
                have hq1 : ¬ (xb : Int) < (xq : Int) := by omega
                have hq2 : ¬ (xq : Int) < (xb : Int) := by omega
                have hq3 : xq ≤ xb := by omega
                have hq4 : xb ≤ xq := by omega
                clear q1 q2
                go_wp2_with fail
                refine HP.out.mono ?_; rintro e w4 ⟨rfl, v', q', s⟩
                have c1 := (s.cell (by exact f1)).trans c1
                have b1 := Nat.lt_of_lt_of_le b1 s.out.size
                have F := F.step HBB.out s q'
                have hb := s.blk fb hb
                clear y2 y3 y4 y5 y6 y7 y8 HP s q' fb f1
                go_upto_region 22 with fail
                have hbd : Blk w4.drew gb 73 #[.int .u8 (xd : Int), .int .i64 xn, .int .u8 (xa : Int), .int .u32 (xb : Int), .int .u8 (xk : Int), .string ⟨xs.toArray⟩, .string ⟨xt.toArray⟩, .string ⟨xu.toArray⟩, .int .u8 (xz : Int)] := hb
                have FD : OF w B g _ _ _ _ _ _ w4.drew := F.below (below_drewN (Below.refl _ _) 1)
                have c1d : w4.drew.cell? { block := (ad.add (i * 7)).block, off := (ad.add (i * 7)).off + 1 } = some (.int .u32 (xq : Int)) := c1
                have b1d : (ad.add (i * 7)).block < w4.drew.heap.size := b1
                clear hb F c1 b1
                refine region_inv2 (by kernel_rfl) [] [(90, .int .i64 0), (91, .bool false), (92, .bool false), (93, undef), (94, undef), (95, undef), (96, undef), (97, undef), (98, undef), (99, undef), (100, undef), (101, undef), (102, undef), (103, undef), (104, undef), (105, undef), (106, .bool false), (107, .bool false), (108, .int .i64 0), (109, .bool true), (110, .bool true), (111, .int .i64 (i : Int)), (112, .bool true), (113, .bool true), (114, .bool true), (115, .slice (some ad) n c), (116, .int .i64 (i : Int)), (117, .pointer (some (ad.add (i * 7)))), (118, .pointer (some { block := (ad.add (i * 7)).block, off := (ad.add (i * 7)).off + 1 })), (119, .int .u32 (xq : Int)), (120, .pointer (some ⟨gb, 2, none⟩)), (121, .pointer (some ⟨gb, 3, none⟩)), (122, .int .u32 (xb : Int)), (123, .bool false), (124, .bool false), (125, .bool false)] (by kernel_rfl) (by kernel_rfl) rfl (by kernel_rfl) ?_ ?_ ?_
                · intro q hq; cases hq
                · refine And.intro ?_ ?_
                  · intro d hd ρ W hcs bw hn hg
                    cases hd
                    have e11 : ρ (.tmp 11) = .int .i64 0 := hn 11 (by decide)
                    clear hn hg
                    refine .inl ⟨trivial, ?_⟩
                    refine .inl ⟨_, W, rfl, e11, Below.refl _ _⟩
                  refine And.intro ?_ ?_
                  · intro d hd ρ W hcs bw hn hg
                    cases hd
                    have e90 : ρ (.tmp 90) = .int .i64 0 := hn 90 (by decide)
                    clear hn hg
                    refine .inl ⟨trivial, ?_⟩
                    have hc1 := hcs.1
                    refine .inl ⟨.bool false, W, ?_, rfl, Below.refl _ _⟩
                    go_simp
                  refine And.intro ?_ ?_
                  · intro d hd ρ W hcs bw hn hg
                    cases hd
                    have e91 : ρ (.tmp 91) = .bool false := hn 91 (by decide)
                    clear hn hg
                    refine .inl ⟨trivial, ?_⟩
                    refine .inl ⟨_, W, rfl, e91, Below.refl _ _⟩
                  refine And.intro ?_ ?_
                  · intro d hd ρ W hcs bw hn hg
                    cases hd
                    have eg : ρ (.tmp 92) = .bool false := hg _ _ _ _ rfl rfl rfl
                    exact .inr ⟨⟨_, _, _, rfl, rfl, eg, nofun⟩, rfl⟩
                  refine And.intro ?_ ?_
                  · intro d hd ρ W hcs bw hn hg
                    cases hd
                    have eg : ρ (.tmp 92) = .bool false := hg _ _ _ _ rfl rfl rfl
                    exact .inr ⟨⟨_, _, _, rfl, rfl, eg, nofun⟩, rfl⟩
                  refine And.intro ?_ ?_
                  · intro d hd ρ W hcs bw hn hg
                    cases hd
                    have eg : ρ (.tmp 92) = .bool false := hg _ _ _ _ rfl rfl rfl
                    exact .inr ⟨⟨_, _, _, rfl, rfl, eg, nofun⟩, rfl⟩
                  refine And.intro ?_ ?_
                  · intro d hd ρ W hcs bw hn hg
                    cases hd
                    have eg : ρ (.tmp 95) = undef := hg _ _ _ _ rfl rfl rfl
                    exact .inr ⟨⟨_, _, _, rfl, rfl, eg, nofun⟩, rfl⟩
                  refine And.intro ?_ ?_
                  · intro d hd ρ W hcs bw hn hg
                    cases hd
                    have eg : ρ (.tmp 95) = undef := hg _ _ _ _ rfl rfl rfl
                    exact .inr ⟨⟨_, _, _, rfl, rfl, eg, nofun⟩, rfl⟩
                  refine And.intro ?_ ?_
                  · intro d hd ρ W hcs bw hn hg
                    cases hd
                    have eg : ρ (.tmp 95) = undef := hg _ _ _ _ rfl rfl rfl
                    exact .inr ⟨⟨_, _, _, rfl, rfl, eg, nofun⟩, rfl⟩
                  refine And.intro ?_ ?_
                  · intro d hd ρ W hcs bw hn hg
                    cases hd
                    have eg : ρ (.tmp 95) = undef := hg _ _ _ _ rfl rfl rfl
                    exact .inr ⟨⟨_, _, _, rfl, rfl, eg, nofun⟩, rfl⟩
                  refine And.intro ?_ ?_
                  · intro d hd ρ W hcs bw hn hg
                    cases hd
                    have eg : ρ (.tmp 95) = undef := hg _ _ _ _ rfl rfl rfl
                    exact .inr ⟨⟨_, _, _, rfl, rfl, eg, nofun⟩, rfl⟩
                  refine And.intro ?_ ?_
                  · intro d hd ρ W hcs bw hn hg
                    cases hd
                    have eg : ρ (.tmp 95) = undef := hg _ _ _ _ rfl rfl rfl
                    exact .inr ⟨⟨_, _, _, rfl, rfl, eg, nofun⟩, rfl⟩
                  refine And.intro ?_ ?_
                  · intro d hd ρ W hcs bw hn hg
                    cases hd
                    have eg : ρ (.tmp 95) = undef := hg _ _ _ _ rfl rfl rfl
                    exact .inr ⟨⟨_, _, _, rfl, rfl, eg, nofun⟩, rfl⟩
                  refine And.intro ?_ ?_
                  · intro d hd ρ W hcs bw hn hg
                    cases hd
                    have eg : ρ (.tmp 95) = undef := hg _ _ _ _ rfl rfl rfl
                    exact .inr ⟨⟨_, _, _, rfl, rfl, eg, nofun⟩, rfl⟩
                  refine And.intro ?_ ?_
                  · intro d hd ρ W hcs bw hn hg
                    cases hd
                    have eg : ρ (.tmp 95) = undef := hg _ _ _ _ rfl rfl rfl
                    exact .inr ⟨⟨_, _, _, rfl, rfl, eg, nofun⟩, rfl⟩
                  refine And.intro ?_ ?_
                  · intro d hd ρ W hcs bw hn hg
                    cases hd
                    have eg : ρ (.tmp 92) = .bool false := hg _ _ _ _ rfl rfl rfl
                    exact .inr ⟨⟨_, _, _, rfl, rfl, eg, nofun⟩, rfl⟩
                  refine And.intro ?_ ?_
                  · intro d hd ρ W hcs bw hn hg
                    cases hd
                    have e92 : ρ (.tmp 92) = .bool false := hn 92 (by decide)
                    have e105 : ρ (.tmp 105) = undef := hn 105 (by decide)
                    clear hn hg
                    refine .inl ⟨trivial, ?_⟩
                    have hc1 := hcs.1
                    refine .inl ⟨.bool false, W, ?_, rfl, Below.refl _ _⟩
                    go_simp
                  refine And.intro ?_ ?_
                  · intro d hd ρ W hcs bw hn hg
                    cases hd
                    have e106 : ρ (.tmp 106) = .bool false := hn 106 (by decide)
                    clear hn hg
                    refine .inl ⟨trivial, ?_⟩
                    refine .inl ⟨_, W, rfl, e106, Below.refl _ _⟩
                  refine And.intro ?_ ?_
                  · intro d hd ρ W hcs bw hn hg
                    cases hd
                    have eg : ρ (.tmp 107) = .bool false := hg _ _ _ _ rfl rfl rfl
                    have e11 : ρ (.tmp 11) = .int .i64 0 := hn 11 (by decide)
                    clear hn hg
                    refine .inl ⟨⟨_, _, rfl, rfl, eg⟩, ?_⟩
                    refine .inl ⟨_, W, rfl, e11, Below.refl _ _⟩
                  refine And.intro ?_ ?_
                  · intro d hd ρ W hcs bw hn hg
                    cases hd
                    have eg : ρ (.tmp 107) = .bool false := hg _ _ _ _ rfl rfl rfl
                    have e108 : ρ (.tmp 108) = .int .i64 0 := hn 108 (by decide)
                    clear hn hg
                    refine .inl ⟨⟨_, _, rfl, rfl, eg⟩, ?_⟩
                    have hc1 := hcs.1
                    refine .inl ⟨.bool true, W, ?_, rfl, Below.refl _ _⟩
                    go_simp
                  refine And.intro ?_ ?_
                  · intro d hd ρ W hcs bw hn hg
                    cases hd
                    have eg : ρ (.tmp 107) = .bool false := hg _ _ _ _ rfl rfl rfl
                    have e109 : ρ (.tmp 109) = .bool true := hn 109 (by decide)
                    clear hn hg
                    refine .inl ⟨⟨_, _, rfl, rfl, eg⟩, ?_⟩
                    refine .inl ⟨_, W, rfl, e109, Below.refl _ _⟩
                  refine And.intro ?_ ?_
                  · intro d hd ρ W hcs bw hn hg
                    cases hd
                    have eg : ρ (.tmp 110) = .bool true := hg _ _ _ _ rfl rfl rfl
                    have e9 : ρ (.tmp 9) = .int .i64 (i : Int) := hn 9 (by decide)
                    clear hn hg
                    refine .inl ⟨⟨_, _, rfl, rfl, eg⟩, ?_⟩
                    refine .inl ⟨_, W, rfl, e9, Below.refl _ _⟩
                  refine And.intro ?_ ?_
                  · intro d hd ρ W hcs bw hn hg
                    cases hd
                    have eg : ρ (.tmp 110) = .bool true := hg _ _ _ _ rfl rfl rfl
                    have e111 : ρ (.tmp 111) = .int .i64 (i : Int) := hn 111 (by decide)
                    clear hn hg
                    refine .inl ⟨⟨_, _, rfl, rfl, eg⟩, ?_⟩
                    have hc1 := hcs.1
                    refine .inl ⟨.bool true, W, ?_, rfl, Below.refl _ _⟩
                    go_simp
                  refine And.intro ?_ ?_
                  · intro d hd ρ W hcs bw hn hg
                    cases hd
                    have eg : ρ (.tmp 107) = .bool false := hg _ _ _ _ rfl rfl rfl
                    have e110 : ρ (.tmp 110) = .bool true := hn 110 (by decide)
                    have e112 : ρ (.tmp 112) = .bool true := hn 112 (by decide)
                    clear hn hg
                    refine .inl ⟨⟨_, _, rfl, rfl, eg⟩, ?_⟩
                    have hc1 := hcs.1
                    refine .inl ⟨.bool true, W, ?_, rfl, Below.refl _ _⟩
                    go_simp
                  refine And.intro ?_ ?_
                  · intro d hd ρ W hcs bw hn hg
                    cases hd
                    have eg : ρ (.tmp 107) = .bool false := hg _ _ _ _ rfl rfl rfl
                    have e113 : ρ (.tmp 113) = .bool true := hn 113 (by decide)
                    clear hn hg
                    refine .inl ⟨⟨_, _, rfl, rfl, eg⟩, ?_⟩
                    refine .inl ⟨_, W, rfl, e113, Below.refl _ _⟩
                  refine And.intro ?_ ?_
                  · intro d hd ρ W hcs bw hn hg
                    cases hd
                    have eg : ρ (.tmp 114) = .bool true := hg _ _ _ _ rfl rfl rfl
                    have e4 : ρ (.tmp 4) = .slice (some ad) n c := hn 4 (by decide)
                    clear hn hg
                    refine .inl ⟨⟨_, _, rfl, rfl, eg⟩, ?_⟩
                    refine .inl ⟨_, W, rfl, e4, Below.refl _ _⟩
                  refine And.intro ?_ ?_
                  · intro d hd ρ W hcs bw hn hg
                    cases hd
                    have eg : ρ (.tmp 114) = .bool true := hg _ _ _ _ rfl rfl rfl
                    have e9 : ρ (.tmp 9) = .int .i64 (i : Int) := hn 9 (by decide)
                    clear hn hg
                    refine .inl ⟨⟨_, _, rfl, rfl, eg⟩, ?_⟩
                    refine .inl ⟨_, W, rfl, e9, Below.refl _ _⟩
                  refine And.intro ?_ ?_
                  · intro d hd ρ W hcs bw hn hg
                    cases hd
                    have eg : ρ (.tmp 114) = .bool true := hg _ _ _ _ rfl rfl rfl
                    have e115 : ρ (.tmp 115) = .slice (some ad) n c := hn 115 (by decide)
                    have e116 : ρ (.tmp 116) = .int .i64 (i : Int) := hn 116 (by decide)
                    clear hn hg
                    refine .inl ⟨⟨_, _, rfl, rfl, eg⟩, ?_⟩
                    refine .inl ⟨.pointer (some (ad.add (i * 7))), W, ?_, rfl, Below.refl _ _⟩
                    go_simp
                  refine And.intro ?_ ?_
                  · intro d hd ρ W hcs bw hn hg
                    cases hd
                    have eg : ρ (.tmp 114) = .bool true := hg _ _ _ _ rfl rfl rfl
                    have e117 : ρ (.tmp 117) = .pointer (some (ad.add (i * 7))) := hn 117 (by decide)
                    clear hn hg
                    refine .inl ⟨⟨_, _, rfl, rfl, eg⟩, ?_⟩
                    refine .inl ⟨.pointer (some { block := (ad.add (i * 7)).block, off := (ad.add (i * 7)).off + 1 }), W, ?_, rfl, Below.refl _ _⟩
                    go_simp
                  refine And.intro ?_ ?_
                  · intro d hd ρ W hcs bw hn hg
                    cases hd
                    have eg : ρ (.tmp 114) = .bool true := hg _ _ _ _ rfl rfl rfl
                    have e118 : ρ (.tmp 118) = .pointer (some { block := (ad.add (i * 7)).block, off := (ad.add (i * 7)).off + 1 }) := hn 118 (by decide)
                    clear hn hg
                    refine .inl ⟨⟨_, _, rfl, rfl, eg⟩, ?_⟩
                    have z0 : W.cell? { block := (ad.add (i * 7)).block, off := (ad.add (i * 7)).off + 1 } = some (.int .u32 (xq : Int)) := (bw.cell (by exact b1d)).trans c1d
                    refine .inl ⟨.int .u32 (xq : Int), W, ?_, rfl, Below.refl _ _⟩
                    go_simp
                  refine And.intro ?_ ?_
                  · intro d hd ρ W hcs bw hn hg
                    cases hd
                    have eg : ρ (.tmp 114) = .bool true := hg _ _ _ _ rfl rfl rfl
                    have e7 : ρ (.tmp 7) = .pointer (some ⟨gb, 0, none⟩) := hn 7 (by decide)
                    clear hn hg
                    refine .inl ⟨⟨_, _, rfl, rfl, eg⟩, ?_⟩
                    refine .inl ⟨.pointer (some ⟨gb, 2, none⟩), W, ?_, rfl, Below.refl _ _⟩
                    go_simp
                  refine And.intro ?_ ?_
                  · intro d hd ρ W hcs bw hn hg
                    cases hd
                    have eg : ρ (.tmp 114) = .bool true := hg _ _ _ _ rfl rfl rfl
                    have e120 : ρ (.tmp 120) = .pointer (some ⟨gb, 2, none⟩) := hn 120 (by decide)
                    clear hn hg
                    refine .inl ⟨⟨_, _, rfl, rfl, eg⟩, ?_⟩
                    refine .inl ⟨.pointer (some ⟨gb, 3, none⟩), W, ?_, rfl, Below.refl _ _⟩
                    go_simp
                  refine And.intro ?_ ?_
                  · intro d hd ρ W hcs bw hn hg
                    cases hd
                    have eg : ρ (.tmp 114) = .bool true := hg _ _ _ _ rfl rfl rfl
                    have e121 : ρ (.tmp 121) = .pointer (some ⟨gb, 3, none⟩) := hn 121 (by decide)
                    clear hn hg
                    refine .inl ⟨⟨_, _, rfl, rfl, eg⟩, ?_⟩
                    have z0 : W.cell? ⟨gb, 3, none⟩ = some (.int .u32 (xb : Int)) := (Blk.below hbd bw (Blk.lt hbd)).cell 3
                    refine .inl ⟨.int .u32 (xb : Int), W, ?_, rfl, Below.refl _ _⟩
                    go_simp
                  refine And.intro ?_ ?_
                  · intro d hd ρ W hcs bw hn hg
                    cases hd
                    have eg : ρ (.tmp 114) = .bool true := hg _ _ _ _ rfl rfl rfl
                    have e119 : ρ (.tmp 119) = .int .u32 (xq : Int) := hn 119 (by decide)
                    have e122 : ρ (.tmp 122) = .int .u32 (xb : Int) := hn 122 (by decide)
                    clear hn hg
                    refine .inl ⟨⟨_, _, rfl, rfl, eg⟩, ?_⟩
                    refine .inl ⟨.bool false, W, ?_, rfl, Below.refl _ _⟩
                    go_simp
                  refine And.intro ?_ ?_
                  · intro d hd ρ W hcs bw hn hg
                    cases hd
                    have eg : ρ (.tmp 107) = .bool false := hg _ _ _ _ rfl rfl rfl
                    have e114 : ρ (.tmp 114) = .bool true := hn 114 (by decide)
                    have e123 : ρ (.tmp 123) = .bool false := hn 123 (by decide)
                    clear hn hg
                    refine .inl ⟨⟨_, _, rfl, rfl, eg⟩, ?_⟩
                    have hc1 := hcs.1
                    refine .inl ⟨.bool false, W, ?_, rfl, Below.refl _ _⟩
                    go_simp
                  refine And.intro ?_ ?_
                  · intro d hd ρ W hcs bw hn hg
                    cases hd
                    have e107 : ρ (.tmp 107) = .bool false := hn 107 (by decide)
                    have e124 : ρ (.tmp 124) = .bool false := hn 124 (by decide)
                    clear hn hg
                    refine .inl ⟨trivial, ?_⟩
                    have hc1 := hcs.1
                    refine .inl ⟨.bool false, W, ?_, rfl, Below.refl _ _⟩
                    go_simp
                  trivial
                · intro a' w' hsz hdf hb hVs
                  have q125 : a'.eval (.tmp 125) = .bool false := hVs 125
                  have ha := slot_over_seg 90 36 [] rfl (by kernel_rfl) (of_decide_eq_true (by kernel_rfl)) hsz hdf hVs
                  clear hVs hsz hdf
                  rw [show List.range' 90 36 = [90, 91, 92, 93, 94, 95, 96, 97, 98, 99, 100, 101, 102, 103, 104, 105, 106, 107, 108, 109, 110, 111, 112, 113, 114, 115, 116, 117, 118, 119, 120, 121, 122, 123, 124, 125] from rfl] at ha
                  simp only [List.take_succ_cons, List.take_zero, List.drop_succ_cons, List.drop_zero, List.map_cons, List.map_nil, List.cons_append, List.nil_append, List.foldl_cons, List.foldl_nil, List.set_cons_zero, List.set_cons_succ, q125] at ha
                  clear q125
                  generalize a'.eval (.tmp 90) = x90 at ha
                  generalize a'.eval (.tmp 91) = x91 at ha
                  generalize a'.eval (.tmp 92) = x92 at ha
                  generalize a'.eval (.tmp 93) = x93 at ha
                  generalize a'.eval (.tmp 94) = x94 at ha
                  generalize a'.eval (.tmp 95) = x95 at ha
                  generalize a'.eval (.tmp 96) = x96 at ha
                  generalize a'.eval (.tmp 97) = x97 at ha
                  generalize a'.eval (.tmp 98) = x98 at ha
                  generalize a'.eval (.tmp 99) = x99 at ha
                  generalize a'.eval (.tmp 100) = x100 at ha
                  generalize a'.eval (.tmp 101) = x101 at ha
                  generalize a'.eval (.tmp 102) = x102 at ha
                  generalize a'.eval (.tmp 103) = x103 at ha
                  generalize a'.eval (.tmp 104) = x104 at ha
                  generalize a'.eval (.tmp 105) = x105 at ha
                  generalize a'.eval (.tmp 106) = x106 at ha
                  generalize a'.eval (.tmp 107) = x107 at ha
                  generalize a'.eval (.tmp 108) = x108 at ha
                  generalize a'.eval (.tmp 109) = x109 at ha
                  generalize a'.eval (.tmp 110) = x110 at ha
                  generalize a'.eval (.tmp 111) = x111 at ha
                  generalize a'.eval (.tmp 112) = x112 at ha
                  generalize a'.eval (.tmp 113) = x113 at ha
                  generalize a'.eval (.tmp 114) = x114 at ha
                  generalize a'.eval (.tmp 115) = x115 at ha
                  generalize a'.eval (.tmp 116) = x116 at ha
                  generalize a'.eval (.tmp 117) = x117 at ha
                  generalize a'.eval (.tmp 118) = x118 at ha
                  generalize a'.eval (.tmp 119) = x119 at ha
                  generalize a'.eval (.tmp 120) = x120 at ha
                  generalize a'.eval (.tmp 121) = x121 at ha
                  generalize a'.eval (.tmp 122) = x122 at ha
                  generalize a'.eval (.tmp 123) = x123 at ha
                  generalize a'.eval (.tmp 124) = x124 at ha
                  subst ha
                  have c1 := (hb.cell (by exact b1d)).trans c1d
                  have b1 := Nat.lt_of_lt_of_le b1d hb.size
                  have F := FD.below hb
                  have hb2 := hbd.below hb hbd.lt
                  clear FD hbd hb c1d b1d
                  have hb := hb2
                  clear hb2
                  obtain ⟨w5, hw5⟩ : ∃ w5 : World, w5 = w' := ⟨_, rfl⟩
                  rw [← hw5] at F hb c1 b1 ⊢
                  clear hw5
                  go_upto_region 24 with fail
                  have hbd : Blk w5.drew gb 73 #[.int .u8 (xd : Int), .int .i64 xn, .int .u8 (xa : Int), .int .u32 (xb : Int), .int .u8 (xk : Int), .string ⟨xs.toArray⟩, .string ⟨xt.toArray⟩, .string ⟨xu.toArray⟩, .int .u8 (xz : Int)] := hb
                  have FD : OF w B g _ _ _ _ _ _ w5.drew := F.below (below_drewN (Below.refl _ _) 1)
                  have c1d : w5.drew.cell? { block := (ad.add (i * 7)).block, off := (ad.add (i * 7)).off + 1 } = some (.int .u32 (xq : Int)) := c1
                  have b1d : (ad.add (i * 7)).block < w5.drew.heap.size := b1
                  clear hb F c1 b1
                  refine region_inv2 (by kernel_rfl) [] [(126, .int .i64 0), (127, .bool true), (128, .bool true), (129, .int .i64 (i : Int)), (130, .bool false), (131, .bool false), (132, .slice (some ad) n c), (133, .int .i64 (i : Int)), (134, .pointer (some (ad.add (i * 7)))), (135, .pointer (some { block := (ad.add (i * 7)).block, off := (ad.add (i * 7)).off + 1 })), (136, .int .u32 (xq : Int)), (137, .pointer (some ⟨gb, 2, none⟩)), (138, .pointer (some ⟨gb, 3, none⟩)), (139, .int .u32 (xb : Int)), (140, .bool false), (141, .bool false), (142, .bool false)] (by kernel_rfl) (by kernel_rfl) rfl (by kernel_rfl) ?_ ?_ ?_
                  · intro q hq; cases hq
                  · refine And.intro ?_ ?_
                    · intro d hd ρ W hcs bw hn hg
                      cases hd
                      have e11 : ρ (.tmp 11) = .int .i64 0 := hn 11 (by decide)
                      clear hn hg
                      refine .inl ⟨trivial, ?_⟩
                      refine .inl ⟨_, W, rfl, e11, Below.refl _ _⟩
                    refine And.intro ?_ ?_
                    · intro d hd ρ W hcs bw hn hg
                      cases hd
                      have e126 : ρ (.tmp 126) = .int .i64 0 := hn 126 (by decide)
                      clear hn hg
                      refine .inl ⟨trivial, ?_⟩
                      have hc1 := hcs.1
                      refine .inl ⟨.bool true, W, ?_, rfl, Below.refl _ _⟩
                      go_simp
                    refine And.intro ?_ ?_
                    · intro d hd ρ W hcs bw hn hg
                      cases hd
                      have e127 : ρ (.tmp 127) = .bool true := hn 127 (by decide)
                      clear hn hg
                      refine .inl ⟨trivial, ?_⟩
                      refine .inl ⟨_, W, rfl, e127, Below.refl _ _⟩
                    refine And.intro ?_ ?_
                    · intro d hd ρ W hcs bw hn hg
                      cases hd
                      have eg : ρ (.tmp 128) = .bool true := hg _ _ _ _ rfl rfl rfl
                      have e9 : ρ (.tmp 9) = .int .i64 (i : Int) := hn 9 (by decide)
                      clear hn hg
                      refine .inl ⟨⟨_, _, rfl, rfl, eg⟩, ?_⟩
                      refine .inl ⟨_, W, rfl, e9, Below.refl _ _⟩
                    refine And.intro ?_ ?_
                    · intro d hd ρ W hcs bw hn hg
                      cases hd
                      have eg : ρ (.tmp 128) = .bool true := hg _ _ _ _ rfl rfl rfl
                      have e129 : ρ (.tmp 129) = .int .i64 (i : Int) := hn 129 (by decide)
                      clear hn hg
                      refine .inl ⟨⟨_, _, rfl, rfl, eg⟩, ?_⟩
                      have hc1 := hcs.1
                      refine .inl ⟨.bool false, W, ?_, rfl, Below.refl _ _⟩
                      go_simp
                    refine And.intro ?_ ?_
                    · intro d hd ρ W hcs bw hn hg
                      cases hd
                      have eg : ρ (.tmp 128) = .bool true := hg _ _ _ _ rfl rfl rfl
                      have e130 : ρ (.tmp 130) = .bool false := hn 130 (by decide)
                      clear hn hg
                      refine .inl ⟨⟨_, _, rfl, rfl, eg⟩, ?_⟩
                      refine .inl ⟨_, W, rfl, e130, Below.refl _ _⟩
                    refine And.intro ?_ ?_
                    · intro d hd ρ W hcs bw hn hg
                      cases hd
                      have eg : ρ (.tmp 131) = .bool false := hg _ _ _ _ rfl rfl rfl
                      have e4 : ρ (.tmp 4) = .slice (some ad) n c := hn 4 (by decide)
                      clear hn hg
                      refine .inl ⟨⟨_, _, rfl, rfl, eg⟩, ?_⟩
                      refine .inl ⟨_, W, rfl, e4, Below.refl _ _⟩
                    refine And.intro ?_ ?_
                    · intro d hd ρ W hcs bw hn hg
                      cases hd
                      have eg : ρ (.tmp 131) = .bool false := hg _ _ _ _ rfl rfl rfl
                      have e9 : ρ (.tmp 9) = .int .i64 (i : Int) := hn 9 (by decide)
                      clear hn hg
                      refine .inl ⟨⟨_, _, rfl, rfl, eg⟩, ?_⟩
                      refine .inl ⟨_, W, rfl, e9, Below.refl _ _⟩
                    refine And.intro ?_ ?_
                    · intro d hd ρ W hcs bw hn hg
                      cases hd
                      have eg : ρ (.tmp 131) = .bool false := hg _ _ _ _ rfl rfl rfl
                      have e132 : ρ (.tmp 132) = .slice (some ad) n c := hn 132 (by decide)
                      have e133 : ρ (.tmp 133) = .int .i64 (i : Int) := hn 133 (by decide)
                      clear hn hg
                      refine .inl ⟨⟨_, _, rfl, rfl, eg⟩, ?_⟩
                      refine .inl ⟨.pointer (some (ad.add (i * 7))), W, ?_, rfl, Below.refl _ _⟩
                      go_simp
                    refine And.intro ?_ ?_
                    · intro d hd ρ W hcs bw hn hg
                      cases hd
                      have eg : ρ (.tmp 131) = .bool false := hg _ _ _ _ rfl rfl rfl
                      have e134 : ρ (.tmp 134) = .pointer (some (ad.add (i * 7))) := hn 134 (by decide)
                      clear hn hg
                      refine .inl ⟨⟨_, _, rfl, rfl, eg⟩, ?_⟩
                      refine .inl ⟨.pointer (some { block := (ad.add (i * 7)).block, off := (ad.add (i * 7)).off + 1 }), W, ?_, rfl, Below.refl _ _⟩
                      go_simp
                    refine And.intro ?_ ?_
                    · intro d hd ρ W hcs bw hn hg
                      cases hd
                      have eg : ρ (.tmp 131) = .bool false := hg _ _ _ _ rfl rfl rfl
                      have e135 : ρ (.tmp 135) = .pointer (some { block := (ad.add (i * 7)).block, off := (ad.add (i * 7)).off + 1 }) := hn 135 (by decide)
                      clear hn hg
                      refine .inl ⟨⟨_, _, rfl, rfl, eg⟩, ?_⟩
                      have z0 : W.cell? { block := (ad.add (i * 7)).block, off := (ad.add (i * 7)).off + 1 } = some (.int .u32 (xq : Int)) := (bw.cell (by exact b1d)).trans c1d
                      refine .inl ⟨.int .u32 (xq : Int), W, ?_, rfl, Below.refl _ _⟩
                      go_simp
                    refine And.intro ?_ ?_
                    · intro d hd ρ W hcs bw hn hg
                      cases hd
                      have eg : ρ (.tmp 131) = .bool false := hg _ _ _ _ rfl rfl rfl
                      have e7 : ρ (.tmp 7) = .pointer (some ⟨gb, 0, none⟩) := hn 7 (by decide)
                      clear hn hg
                      refine .inl ⟨⟨_, _, rfl, rfl, eg⟩, ?_⟩
                      refine .inl ⟨.pointer (some ⟨gb, 2, none⟩), W, ?_, rfl, Below.refl _ _⟩
                      go_simp
                    refine And.intro ?_ ?_
                    · intro d hd ρ W hcs bw hn hg
                      cases hd
                      have eg : ρ (.tmp 131) = .bool false := hg _ _ _ _ rfl rfl rfl
                      have e137 : ρ (.tmp 137) = .pointer (some ⟨gb, 2, none⟩) := hn 137 (by decide)
                      clear hn hg
                      refine .inl ⟨⟨_, _, rfl, rfl, eg⟩, ?_⟩
                      refine .inl ⟨.pointer (some ⟨gb, 3, none⟩), W, ?_, rfl, Below.refl _ _⟩
                      go_simp
                    refine And.intro ?_ ?_
                    · intro d hd ρ W hcs bw hn hg
                      cases hd
                      have eg : ρ (.tmp 131) = .bool false := hg _ _ _ _ rfl rfl rfl
                      have e138 : ρ (.tmp 138) = .pointer (some ⟨gb, 3, none⟩) := hn 138 (by decide)
                      clear hn hg
                      refine .inl ⟨⟨_, _, rfl, rfl, eg⟩, ?_⟩
                      have z0 : W.cell? ⟨gb, 3, none⟩ = some (.int .u32 (xb : Int)) := (Blk.below hbd bw (Blk.lt hbd)).cell 3
                      refine .inl ⟨.int .u32 (xb : Int), W, ?_, rfl, Below.refl _ _⟩
                      go_simp
                    refine And.intro ?_ ?_
                    · intro d hd ρ W hcs bw hn hg
                      cases hd
                      have eg : ρ (.tmp 131) = .bool false := hg _ _ _ _ rfl rfl rfl
                      have e136 : ρ (.tmp 136) = .int .u32 (xq : Int) := hn 136 (by decide)
                      have e139 : ρ (.tmp 139) = .int .u32 (xb : Int) := hn 139 (by decide)
                      clear hn hg
                      refine .inl ⟨⟨_, _, rfl, rfl, eg⟩, ?_⟩
                      refine .inl ⟨.bool false, W, ?_, rfl, Below.refl _ _⟩
                      go_simp
                    refine And.intro ?_ ?_
                    · intro d hd ρ W hcs bw hn hg
                      cases hd
                      have eg : ρ (.tmp 128) = .bool true := hg _ _ _ _ rfl rfl rfl
                      have e131 : ρ (.tmp 131) = .bool false := hn 131 (by decide)
                      have e140 : ρ (.tmp 140) = .bool false := hn 140 (by decide)
                      clear hn hg
                      refine .inl ⟨⟨_, _, rfl, rfl, eg⟩, ?_⟩
                      have hc1 := hcs.1
                      refine .inl ⟨.bool false, W, ?_, rfl, Below.refl _ _⟩
                      go_simp
                    refine And.intro ?_ ?_
                    · intro d hd ρ W hcs bw hn hg
                      cases hd
                      have e128 : ρ (.tmp 128) = .bool true := hn 128 (by decide)
                      have e141 : ρ (.tmp 141) = .bool false := hn 141 (by decide)
                      clear hn hg
                      refine .inl ⟨trivial, ?_⟩
                      have hc1 := hcs.1
                      refine .inl ⟨.bool false, W, ?_, rfl, Below.refl _ _⟩
                      go_simp
                    trivial
                  · intro a' w' hsz hdf hb hVs
                    have q142 : a'.eval (.tmp 142) = .bool false := hVs 142
                    have ha := slot_over_seg 126 17 [] rfl (by kernel_rfl) (of_decide_eq_true (by kernel_rfl)) hsz hdf hVs
                    clear hVs hsz hdf
                    rw [show List.range' 126 17 = [126, 127, 128, 129, 130, 131, 132, 133, 134, 135, 136, 137, 138, 139, 140, 141, 142] from rfl] at ha
                    simp only [List.take_succ_cons, List.take_zero, List.drop_succ_cons, List.drop_zero, List.map_cons, List.map_nil, List.cons_append, List.nil_append, List.foldl_cons, List.foldl_nil, List.set_cons_zero, List.set_cons_succ, q142] at ha
                    clear q142
                    generalize a'.eval (.tmp 126) = x126 at ha
                    generalize a'.eval (.tmp 127) = x127 at ha
                    generalize a'.eval (.tmp 128) = x128 at ha
                    generalize a'.eval (.tmp 129) = x129 at ha
                    generalize a'.eval (.tmp 130) = x130 at ha
                    generalize a'.eval (.tmp 131) = x131 at ha
                    generalize a'.eval (.tmp 132) = x132 at ha
                    generalize a'.eval (.tmp 133) = x133 at ha
                    generalize a'.eval (.tmp 134) = x134 at ha
                    generalize a'.eval (.tmp 135) = x135 at ha
                    generalize a'.eval (.tmp 136) = x136 at ha
                    generalize a'.eval (.tmp 137) = x137 at ha
                    generalize a'.eval (.tmp 138) = x138 at ha
                    generalize a'.eval (.tmp 139) = x139 at ha
                    generalize a'.eval (.tmp 140) = x140 at ha
                    generalize a'.eval (.tmp 141) = x141 at ha
                    subst ha
                    have c1 := (hb.cell (by exact b1d)).trans c1d
                    have b1 := Nat.lt_of_lt_of_le b1d hb.size
                    have F := FD.below hb
                    have hb2 := hbd.below hb hbd.lt
                    clear FD hbd hb c1d b1d
                    have hb := hb2
                    clear hb2
                    obtain ⟨w6, hw5⟩ : ∃ w6 : World, w6 = w' := ⟨_, rfl⟩
                    rw [← hw5] at F hb c1 b1 ⊢
                    clear hw5
                    have HF := Lib.hid F
                    have HGD2 := Lib.hid hgd2
                    clear F hb hgd2 c1 b1
                    have HLG2 : Hid (lg.length + n ≤ k + 1) := Nat.le_succ_of_le HLG.out
                    go_wp2_with fail
                    go_roundg (ln - (k + 1))
                    case measure => omega
                    case rel => exact ⟨k + 1, n, m, v', _, c, u, lg, by omega, by go_num, rfl, rfl, HN, HNC, HLG2, HGD2.out, HF.out⟩
              rw [if_neg q2] at hput
              subst hput
              have hq1 : ¬ (xb : Int) < (xq : Int) := by omega
              have hq2 : (xq : Int) < (xb : Int) := by omega
              have hq3 : xq < xb := by omega
              have hq4 : xq ≤ xb := by omega
              clear q1 q2
              go_wp2_with fail
              refine HP.out.mono ?_; rintro e w4 ⟨rfl, v', q', s⟩
              have c1 := (s.cell (by exact f1)).trans c1
              have b1 := Nat.lt_of_lt_of_le b1 s.out.size
              have F := F.step HBB.out s q'
              have hb := s.blk fb hb
              clear y2 y3 y4 y5 y6 y7 y8 HP s q' fb f1
              go_upto_region 22 with fail
              have hbd : Blk w4.drew gb 73 #[.int .u8 (xd : Int), .int .i64 xn, .int .u8 (xa : Int), .int .u32 (xb : Int), .int .u8 (xk : Int), .string ⟨xs.toArray⟩, .string ⟨xt.toArray⟩, .string ⟨xu.toArray⟩, .int .u8 (xz : Int)] := hb
              have FD : OF w B g _ _ _ _ _ _ w4.drew := F.below (below_drewN (Below.refl _ _) 1)
              have c1d : w4.drew.cell? { block := (ad.add (i * 7)).block, off := (ad.add (i * 7)).off + 1 } = some (.int .u32 (xq : Int)) := c1
              have b1d : (ad.add (i * 7)).block < w4.drew.heap.size := b1
              clear hb F c1 b1
              refine region_inv2 (by kernel_rfl) [] [(90, .int .i64 0), (91, .bool false), (92, .bool false), (93, undef), (94, undef), (95, undef), (96, undef), (97, undef), (98, undef), (99, undef), (100, undef), (101, undef), (102, undef), (103, undef), (104, undef), (105, undef), (106, .bool false), (107, .bool false), (108, .int .i64 0), (109, .bool true), (110, .bool true), (111, .int .i64 (i : Int)), (112, .bool true), (113, .bool true), (114, .bool true), (115, .slice (some ad) n c), (116, .int .i64 (i : Int)), (117, .pointer (some (ad.add (i * 7)))), (118, .pointer (some { block := (ad.add (i * 7)).block, off := (ad.add (i * 7)).off + 1 })), (119, .int .u32 (xq : Int)), (120, .pointer (some ⟨gb, 2, none⟩)), (121, .pointer (some ⟨gb, 3, none⟩)), (122, .int .u32 (xb : Int)), (123, .bool false), (124, .bool false), (125, .bool false)] (by kernel_rfl) (by kernel_rfl) rfl (by kernel_rfl) ?_ ?_ ?_
              · intro q hq; cases hq
              · refine And.intro ?_ ?_
                · intro d hd ρ W hcs bw hn hg
                  cases hd
                  have e11 : ρ (.tmp 11) = .int .i64 0 := hn 11 (by decide)
                  clear hn hg
                  refine .inl ⟨trivial, ?_⟩
                  refine .inl ⟨_, W, rfl, e11, Below.refl _ _⟩
                refine And.intro ?_ ?_
                · intro d hd ρ W hcs bw hn hg
                  cases hd
                  have e90 : ρ (.tmp 90) = .int .i64 0 := hn 90 (by decide)
                  clear hn hg
                  refine .inl ⟨trivial, ?_⟩
                  have hc1 := hcs.1
                  refine .inl ⟨.bool false, W, ?_, rfl, Below.refl _ _⟩
                  go_simp
                refine And.intro ?_ ?_
                · intro d hd ρ W hcs bw hn hg
                  cases hd
                  have e91 : ρ (.tmp 91) = .bool false := hn 91 (by decide)
                  clear hn hg
                  refine .inl ⟨trivial, ?_⟩
                  refine .inl ⟨_, W, rfl, e91, Below.refl _ _⟩
                refine And.intro ?_ ?_
                · intro d hd ρ W hcs bw hn hg
                  cases hd
                  have eg : ρ (.tmp 92) = .bool false := hg _ _ _ _ rfl rfl rfl
                  exact .inr ⟨⟨_, _, _, rfl, rfl, eg, nofun⟩, rfl⟩
                refine And.intro ?_ ?_
                · intro d hd ρ W hcs bw hn hg
                  cases hd
                  have eg : ρ (.tmp 92) = .bool false := hg _ _ _ _ rfl rfl rfl
                  exact .inr ⟨⟨_, _, _, rfl, rfl, eg, nofun⟩, rfl⟩
                refine And.intro ?_ ?_
                · intro d hd ρ W hcs bw hn hg
                  cases hd
                  have eg : ρ (.tmp 92) = .bool false := hg _ _ _ _ rfl rfl rfl
                  exact .inr ⟨⟨_, _, _, rfl, rfl, eg, nofun⟩, rfl⟩
                refine And.intro ?_ ?_
                · intro d hd ρ W hcs bw hn hg
                  cases hd
                  have eg : ρ (.tmp 95) = undef := hg _ _ _ _ rfl rfl rfl
                  exact .inr ⟨⟨_, _, _, rfl, rfl, eg, nofun⟩, rfl⟩
                refine And.intro ?_ ?_
                · intro d hd ρ W hcs bw hn hg
                  cases hd
                  have eg : ρ (.tmp 95) = undef := hg _ _ _ _ rfl rfl rfl
                  exact .inr ⟨⟨_, _, _, rfl, rfl, eg, nofun⟩, rfl⟩
                refine And.intro ?_ ?_
                · intro d hd ρ W hcs bw hn hg
                  cases hd
                  have eg : ρ (.tmp 95) = undef := hg _ _ _ _ rfl rfl rfl
                  exact .inr ⟨⟨_, _, _, rfl, rfl, eg, nofun⟩, rfl⟩
                refine And.intro ?_ ?_
                · intro d hd ρ W hcs bw hn hg
                  cases hd
                  have eg : ρ (.tmp 95) = undef := hg _ _ _ _ rfl rfl rfl
                  exact .inr ⟨⟨_, _, _, rfl, rfl, eg, nofun⟩, rfl⟩
                refine And.intro ?_ ?_
                · intro d hd ρ W hcs bw hn hg
                  cases hd
                  have eg : ρ (.tmp 95) = undef := hg _ _ _ _ rfl rfl rfl
                  exact .inr ⟨⟨_, _, _, rfl, rfl, eg, nofun⟩, rfl⟩
                refine And.intro ?_ ?_
                · intro d hd ρ W hcs bw hn hg
                  cases hd
                  have eg : ρ (.tmp 95) = undef := hg _ _ _ _ rfl rfl rfl
                  exact .inr ⟨⟨_, _, _, rfl, rfl, eg, nofun⟩, rfl⟩
                refine And.intro ?_ ?_
                · intro d hd ρ W hcs bw hn hg
                  cases hd
                  have eg : ρ (.tmp 95) = undef := hg _ _ _ _ rfl rfl rfl
                  exact .inr ⟨⟨_, _, _, rfl, rfl, eg, nofun⟩, rfl⟩
                refine And.intro ?_ ?_
                · intro d hd ρ W hcs bw hn hg
                  cases hd
                  have eg : ρ (.tmp 95) = undef := hg _ _ _ _ rfl rfl rfl
                  exact .inr ⟨⟨_, _, _, rfl, rfl, eg, nofun⟩, rfl⟩
                refine And.intro ?_ ?_
                · intro d hd ρ W hcs bw hn hg
                  cases hd
                  have eg : ρ (.tmp 95) = undef := hg _ _ _ _ rfl rfl rfl
                  exact .inr ⟨⟨_, _, _, rfl, rfl, eg, nofun⟩, rfl⟩
                refine And.intro ?_ ?_
                · intro d hd ρ W hcs bw hn hg
                  cases hd
                  have eg : ρ (.tmp 92) = .bool false := hg _ _ _ _ rfl rfl rfl
                  exact .inr ⟨⟨_, _, _, rfl, rfl, eg, nofun⟩, rfl⟩
                refine And.intro ?_ ?_
                · intro d hd ρ W hcs bw hn hg
                  cases hd
                  have e92 : ρ (.tmp 92) = .bool false := hn 92 (by decide)
                  have e105 : ρ (.tmp 105) = undef := hn 105 (by decide)
                  clear hn hg
                  refine .inl ⟨trivial, ?_⟩
                  have hc1 := hcs.1
                  refine .inl ⟨.bool false, W, ?_, rfl, Below.refl _ _⟩
                  go_simp
                refine And.intro ?_ ?_
                · intro d hd ρ W hcs bw hn hg
                  cases hd
                  have e106 : ρ (.tmp 106) = .bool false := hn 106 (by decide)
                  clear hn hg
                  refine .inl ⟨trivial, ?_⟩
                  refine .inl ⟨_, W, rfl, e106, Below.refl _ _⟩
                refine And.intro ?_ ?_
                · intro d hd ρ W hcs bw hn hg
                  cases hd
                  have eg : ρ (.tmp 107) = .bool false := hg _ _ _ _ rfl rfl rfl
                  have e11 : ρ (.tmp 11) = .int .i64 0 := hn 11 (by decide)
                  clear hn hg
                  refine .inl ⟨⟨_, _, rfl, rfl, eg⟩, ?_⟩
                  refine .inl ⟨_, W, rfl, e11, Below.refl _ _⟩
                refine And.intro ?_ ?_
                · intro d hd ρ W hcs bw hn hg
                  cases hd
                  have eg : ρ (.tmp 107) = .bool false := hg _ _ _ _ rfl rfl rfl
                  have e108 : ρ (.tmp 108) = .int .i64 0 := hn 108 (by decide)
                  clear hn hg
                  refine .inl ⟨⟨_, _, rfl, rfl, eg⟩, ?_⟩
                  have hc1 := hcs.1
                  refine .inl ⟨.bool true, W, ?_, rfl, Below.refl _ _⟩
                  go_simp
                refine And.intro ?_ ?_
                · intro d hd ρ W hcs bw hn hg
                  cases hd
                  have eg : ρ (.tmp 107) = .bool false := hg _ _ _ _ rfl rfl rfl
                  have e109 : ρ (.tmp 109) = .bool true := hn 109 (by decide)
                  clear hn hg
                  refine .inl ⟨⟨_, _, rfl, rfl, eg⟩, ?_⟩
                  refine .inl ⟨_, W, rfl, e109, Below.refl _ _⟩
                refine And.intro ?_ ?_
                · intro d hd ρ W hcs bw hn hg
                  cases hd
                  have eg : ρ (.tmp 110) = .bool true := hg _ _ _ _ rfl rfl rfl
                  have e9 : ρ (.tmp 9) = .int .i64 (i : Int) := hn 9 (by decide)
                  clear hn hg
                  refine .inl ⟨⟨_, _, rfl, rfl, eg⟩, ?_⟩
                  refine .inl ⟨_, W, rfl, e9, Below.refl _ _⟩
                refine And.intro ?_ ?_
                · intro d hd ρ W hcs bw hn hg
                  cases hd
                  have eg : ρ (.tmp 110) = .bool true := hg _ _ _ _ rfl rfl rfl
                  have e111 : ρ (.tmp 111) = .int .i64 (i : Int) := hn 111 (by decide)
                  clear hn hg
                  refine .inl ⟨⟨_, _, rfl, rfl, eg⟩, ?_⟩
                  have hc1 := hcs.1
                  refine .inl ⟨.bool true, W, ?_, rfl, Below.refl _ _⟩
                  go_simp
                refine And.intro ?_ ?_
                · intro d hd ρ W hcs bw hn hg
                  cases hd
                  have eg : ρ (.tmp 107) = .bool false := hg _ _ _ _ rfl rfl rfl
                  have e110 : ρ (.tmp 110) = .bool true := hn 110 (by decide)
                  have e112 : ρ (.tmp 112) = .bool true := hn 112 (by decide)
                  clear hn hg
                  refine .inl ⟨⟨_, _, rfl, rfl, eg⟩, ?_⟩
                  have hc1 := hcs.1
                  refine .inl ⟨.bool true, W, ?_, rfl, Below.refl _ _⟩
                  go_simp
                refine And.intro ?_ ?_
                · intro d hd ρ W hcs bw hn hg
                  cases hd
                  have eg : ρ (.tmp 107) = .bool false := hg _ _ _ _ rfl rfl rfl
                  have e113 : ρ (.tmp 113) = .bool true := hn 113 (by decide)
                  clear hn hg
                  refine .inl ⟨⟨_, _, rfl, rfl, eg⟩, ?_⟩
                  refine .inl ⟨_, W, rfl, e113, Below.refl _ _⟩
                refine And.intro ?_ ?_
                · intro d hd ρ W hcs bw hn hg
                  cases hd
                  have eg : ρ (.tmp 114) = .bool true := hg _ _ _ _ rfl rfl rfl
                  have e4 : ρ (.tmp 4) = .slice (some ad) n c := hn 4 (by decide)
                  clear hn hg
                  refine .inl ⟨⟨_, _, rfl, rfl, eg⟩, ?_⟩
                  refine .inl ⟨_, W, rfl, e4, Below.refl _ _⟩
                refine And.intro ?_ ?_
                · intro d hd ρ W hcs bw hn hg
                  cases hd
                  have eg : ρ (.tmp 114) = .bool true := hg _ _ _ _ rfl rfl rfl
                  have e9 : ρ (.tmp 9) = .int .i64 (i : Int) := hn 9 (by decide)
                  clear hn hg
                  refine .inl ⟨⟨_, _, rfl, rfl, eg⟩, ?_⟩
                  refine .inl ⟨_, W, rfl, e9, Below.refl _ _⟩
                refine And.intro ?_ ?_
                · intro d hd ρ W hcs bw hn hg
                  cases hd
                  have eg : ρ (.tmp 114) = .bool true := hg _ _ _ _ rfl rfl rfl
                  have e115 : ρ (.tmp 115) = .slice (some ad) n c := hn 115 (by decide)
                  have e116 : ρ (.tmp 116) = .int .i64 (i : Int) := hn 116 (by decide)
                  clear hn hg
                  refine .inl ⟨⟨_, _, rfl, rfl, eg⟩, ?_⟩
                  refine .inl ⟨.pointer (some (ad.add (i * 7))), W, ?_, rfl, Below.refl _ _⟩
                  go_simp
                refine And.intro ?_ ?_
                · intro d hd ρ W hcs bw hn hg
                  cases hd
                  have eg : ρ (.tmp 114) = .bool true := hg _ _ _ _ rfl rfl rfl
                  have e117 : ρ (.tmp 117) = .pointer (some (ad.add (i * 7))) := hn 117 (by decide)
                  clear hn hg
                  refine .inl ⟨⟨_, _, rfl, rfl, eg⟩, ?_⟩
                  refine .inl ⟨.pointer (some { block := (ad.add (i * 7)).block, off := (ad.add (i * 7)).off + 1 }), W, ?_, rfl, Below.refl _ _⟩
                  go_simp
                refine And.intro ?_ ?_
                · intro d hd ρ W hcs bw hn hg
                  cases hd
                  have eg : ρ (.tmp 114) = .bool true := hg _ _ _ _ rfl rfl rfl
                  have e118 : ρ (.tmp 118) = .pointer (some { block := (ad.add (i * 7)).block, off := (ad.add (i * 7)).off + 1 }) := hn 118 (by decide)
                  clear hn hg
                  refine .inl ⟨⟨_, _, rfl, rfl, eg⟩, ?_⟩
                  have z0 : W.cell? { block := (ad.add (i * 7)).block, off := (ad.add (i * 7)).off + 1 } = some (.int .u32 (xq : Int)) := (bw.cell (by exact b1d)).trans c1d
                  refine .inl ⟨.int .u32 (xq : Int), W, ?_, rfl, Below.refl _ _⟩
                  go_simp
                refine And.intro ?_ ?_
                · intro d hd ρ W hcs bw hn hg
                  cases hd
                  have eg : ρ (.tmp 114) = .bool true := hg _ _ _ _ rfl rfl rfl
                  have e7 : ρ (.tmp 7) = .pointer (some ⟨gb, 0, none⟩) := hn 7 (by decide)
                  clear hn hg
                  refine .inl ⟨⟨_, _, rfl, rfl, eg⟩, ?_⟩
                  refine .inl ⟨.pointer (some ⟨gb, 2, none⟩), W, ?_, rfl, Below.refl _ _⟩
                  go_simp
                refine And.intro ?_ ?_
                · intro d hd ρ W hcs bw hn hg
                  cases hd
                  have eg : ρ (.tmp 114) = .bool true := hg _ _ _ _ rfl rfl rfl
                  have e120 : ρ (.tmp 120) = .pointer (some ⟨gb, 2, none⟩) := hn 120 (by decide)
                  clear hn hg
                  refine .inl ⟨⟨_, _, rfl, rfl, eg⟩, ?_⟩
                  refine .inl ⟨.pointer (some ⟨gb, 3, none⟩), W, ?_, rfl, Below.refl _ _⟩
                  go_simp
                refine And.intro ?_ ?_
                · intro d hd ρ W hcs bw hn hg
                  cases hd
                  have eg : ρ (.tmp 114) = .bool true := hg _ _ _ _ rfl rfl rfl
                  have e121 : ρ (.tmp 121) = .pointer (some ⟨gb, 3, none⟩) := hn 121 (by decide)
                  clear hn hg
                  refine .inl ⟨⟨_, _, rfl, rfl, eg⟩, ?_⟩
                  have z0 : W.cell? ⟨gb, 3, none⟩ = some (.int .u32 (xb : Int)) := (Blk.below hbd bw (Blk.lt hbd)).cell 3
                  refine .inl ⟨.int .u32 (xb : Int), W, ?_, rfl, Below.refl _ _⟩
                  go_simp
                refine And.intro ?_ ?_
                · intro d hd ρ W hcs bw hn hg
                  cases hd
                  have eg : ρ (.tmp 114) = .bool true := hg _ _ _ _ rfl rfl rfl
                  have e119 : ρ (.tmp 119) = .int .u32 (xq : Int) := hn 119 (by decide)
                  have e122 : ρ (.tmp 122) = .int .u32 (xb : Int) := hn 122 (by decide)
                  clear hn hg
                  refine .inl ⟨⟨_, _, rfl, rfl, eg⟩, ?_⟩
                  refine .inl ⟨.bool false, W, ?_, rfl, Below.refl _ _⟩
                  go_simp
                refine And.intro ?_ ?_
                · intro d hd ρ W hcs bw hn hg
                  cases hd
                  have eg : ρ (.tmp 107) = .bool false := hg _ _ _ _ rfl rfl rfl
                  have e114 : ρ (.tmp 114) = .bool true := hn 114 (by decide)
                  have e123 : ρ (.tmp 123) = .bool false := hn 123 (by decide)
                  clear hn hg
                  refine .inl ⟨⟨_, _, rfl, rfl, eg⟩, ?_⟩
                  have hc1 := hcs.1
                  refine .inl ⟨.bool false, W, ?_, rfl, Below.refl _ _⟩
                  go_simp
                refine And.intro ?_ ?_
                · intro d hd ρ W hcs bw hn hg
                  cases hd
                  have e107 : ρ (.tmp 107) = .bool false := hn 107 (by decide)
                  have e124 : ρ (.tmp 124) = .bool false := hn 124 (by decide)
                  clear hn hg
                  refine .inl ⟨trivial, ?_⟩
                  have hc1 := hcs.1
                  refine .inl ⟨.bool false, W, ?_, rfl, Below.refl _ _⟩
                  go_simp
                trivial
              · intro a' w' hsz hdf hb hVs
                have q125 : a'.eval (.tmp 125) = .bool false := hVs 125
                have ha := slot_over_seg 90 36 [] rfl (by kernel_rfl) (of_decide_eq_true (by kernel_rfl)) hsz hdf hVs
                clear hVs hsz hdf
                rw [show List.range' 90 36 = [90, 91, 92, 93, 94, 95, 96, 97, 98, 99, 100, 101, 102, 103, 104, 105, 106, 107, 108, 109, 110, 111, 112, 113, 114, 115, 116, 117, 118, 119, 120, 121, 122, 123, 124, 125] from rfl] at ha
                simp only [List.take_succ_cons, List.take_zero, List.drop_succ_cons, List.drop_zero, List.map_cons, List.map_nil, List.cons_append, List.nil_append, List.foldl_cons, List.foldl_nil, List.set_cons_zero, List.set_cons_succ, q125] at ha
                clear q125
                generalize a'.eval (.tmp 90) = x90 at ha
                generalize a'.eval (.tmp 91) = x91 at ha
                generalize a'.eval (.tmp 92) = x92 at ha
                generalize a'.eval (.tmp 93) = x93 at ha
                generalize a'.eval (.tmp 94) = x94 at ha
                generalize a'.eval (.tmp 95) = x95 at ha
                generalize a'.eval (.tmp 96) = x96 at ha
                generalize a'.eval (.tmp 97) = x97 at ha
                generalize a'.eval (.tmp 98) = x98 at ha
                generalize a'.eval (.tmp 99) = x99 at ha
                generalize a'.eval (.tmp 100) = x100 at ha
                generalize a'.eval (.tmp 101) = x101 at ha
                generalize a'.eval (.tmp 102) = x102 at ha
                generalize a'.eval (.tmp 103) = x103 at ha
                generalize a'.eval (.tmp 104) = x104 at ha
                generalize a'.eval (.tmp 105) = x105 at ha
                generalize a'.eval (.tmp 106) = x106 at ha
                generalize a'.eval (.tmp 107) = x107 at ha
                generalize a'.eval (.tmp 108) = x108 at ha
                generalize a'.eval (.tmp 109) = x109 at ha
                generalize a'.eval (.tmp 110) = x110 at ha
                generalize a'.eval (.tmp 111) = x111 at ha
                generalize a'.eval (.tmp 112) = x112 at ha
                generalize a'.eval (.tmp 113) = x113 at ha
                generalize a'.eval (.tmp 114) = x114 at ha
                generalize a'.eval (.tmp 115) = x115 at ha
                generalize a'.eval (.tmp 116) = x116 at ha
                generalize a'.eval (.tmp 117) = x117 at ha
                generalize a'.eval (.tmp 118) = x118 at ha
                generalize a'.eval (.tmp 119) = x119 at ha
                generalize a'.eval (.tmp 120) = x120 at ha
                generalize a'.eval (.tmp 121) = x121 at ha
                generalize a'.eval (.tmp 122) = x122 at ha
                generalize a'.eval (.tmp 123) = x123 at ha
                generalize a'.eval (.tmp 124) = x124 at ha
                subst ha
                have c1 := (hb.cell (by exact b1d)).trans c1d
                have b1 := Nat.lt_of_lt_of_le b1d hb.size
                have F := FD.below hb
                have hb2 := hbd.below hb hbd.lt
                clear FD hbd hb c1d b1d
                have hb := hb2
                clear hb2
                obtain ⟨w5, hw5⟩ : ∃ w5 : World, w5 = w' := ⟨_, rfl⟩
                rw [← hw5] at F hb c1 b1 ⊢
                clear hw5
                go_upto_region 24 with fail
                have hbd : Blk w5.drew gb 73 #[.int .u8 (xd : Int), .int .i64 xn, .int .u8 (xa : Int), .int .u32 (xb : Int), .int .u8 (xk : Int), .string ⟨xs.toArray⟩, .string ⟨xt.toArray⟩, .string ⟨xu.toArray⟩, .int .u8 (xz : Int)] := hb
                have FD : OF w B g _ _ _ _ _ _ w5.drew := F.below (below_drewN (Below.refl _ _) 1)
                have c1d : w5.drew.cell? { block := (ad.add (i * 7)).block, off := (ad.add (i * 7)).off + 1 } = some (.int .u32 (xq : Int)) := c1
                have b1d : (ad.add (i * 7)).block < w5.drew.heap.size := b1
                clear hb F c1 b1
                refine region_inv2 (by kernel_rfl) [] [(126, .int .i64 0), (127, .bool true), (128, .bool true), (129, .int .i64 (i : Int)), (130, .bool false), (131, .bool false), (132, .slice (some ad) n c), (133, .int .i64 (i : Int)), (134, .pointer (some (ad.add (i * 7)))), (135, .pointer (some { block := (ad.add (i * 7)).block, off := (ad.add (i * 7)).off + 1 })), (136, .int .u32 (xq : Int)), (137, .pointer (some ⟨gb, 2, none⟩)), (138, .pointer (some ⟨gb, 3, none⟩)), (139, .int .u32 (xb : Int)), (140, .bool true), (141, .bool true), (142, .bool true)] (by kernel_rfl) (by kernel_rfl) rfl (by kernel_rfl) ?_ ?_ ?_
                · intro q hq; cases hq
                · refine And.intro ?_ ?_
                  · intro d hd ρ W hcs bw hn hg
                    cases hd
                    have e11 : ρ (.tmp 11) = .int .i64 0 := hn 11 (by decide)
                    clear hn hg
                    refine .inl ⟨trivial, ?_⟩
                    refine .inl ⟨_, W, rfl, e11, Below.refl _ _⟩
                  refine And.intro ?_ ?_
                  · intro d hd ρ W hcs bw hn hg
                    cases hd
                    have e126 : ρ (.tmp 126) = .int .i64 0 := hn 126 (by decide)
                    clear hn hg
                    refine .inl ⟨trivial, ?_⟩
                    have hc1 := hcs.1
                    refine .inl ⟨.bool true, W, ?_, rfl, Below.refl _ _⟩
                    go_simp
                  refine And.intro ?_ ?_
                  · intro d hd ρ W hcs bw hn hg
                    cases hd
                    have e127 : ρ (.tmp 127) = .bool true := hn 127 (by decide)
                    clear hn hg
                    refine .inl ⟨trivial, ?_⟩
                    refine .inl ⟨_, W, rfl, e127, Below.refl _ _⟩
                  refine And.intro ?_ ?_
                  · intro d hd ρ W hcs bw hn hg
                    cases hd
                    have eg : ρ (.tmp 128) = .bool true := hg _ _ _ _ rfl rfl rfl
                    have e9 : ρ (.tmp 9) = .int .i64 (i : Int) := hn 9 (by decide)
                    clear hn hg
                    refine .inl ⟨⟨_, _, rfl, rfl, eg⟩, ?_⟩
                    refine .inl ⟨_, W, rfl, e9, Below.refl _ _⟩
                  refine And.intro ?_ ?_
                  · intro d hd ρ W hcs bw hn hg
                    cases hd
                    have eg : ρ (.tmp 128) = .bool true := hg _ _ _ _ rfl rfl rfl
                    have e129 : ρ (.tmp 129) = .int .i64 (i : Int) := hn 129 (by decide)
                    clear hn hg
                    refine .inl ⟨⟨_, _, rfl, rfl, eg⟩, ?_⟩
                    have hc1 := hcs.1
                    refine .inl ⟨.bool false, W, ?_, rfl, Below.refl _ _⟩
                    go_simp
                  refine And.intro ?_ ?_
                  · intro d hd ρ W hcs bw hn hg
                    cases hd
                    have eg : ρ (.tmp 128) = .bool true := hg _ _ _ _ rfl rfl rfl
                    have e130 : ρ (.tmp 130) = .bool false := hn 130 (by decide)
                    clear hn hg
                    refine .inl ⟨⟨_, _, rfl, rfl, eg⟩, ?_⟩
                    refine .inl ⟨_, W, rfl, e130, Below.refl _ _⟩
                  refine And.intro ?_ ?_
                  · intro d hd ρ W hcs bw hn hg
                    cases hd
                    have eg : ρ (.tmp 131) = .bool false := hg _ _ _ _ rfl rfl rfl
                    have e4 : ρ (.tmp 4) = .slice (some ad) n c := hn 4 (by decide)
                    clear hn hg
                    refine .inl ⟨⟨_, _, rfl, rfl, eg⟩, ?_⟩
                    refine .inl ⟨_, W, rfl, e4, Below.refl _ _⟩
                  refine And.intro ?_ ?_
                  · intro d hd ρ W hcs bw hn hg
                    cases hd
                    have eg : ρ (.tmp 131) = .bool false := hg _ _ _ _ rfl rfl rfl
                    have e9 : ρ (.tmp 9) = .int .i64 (i : Int) := hn 9 (by decide)
                    clear hn hg
                    refine .inl ⟨⟨_, _, rfl, rfl, eg⟩, ?_⟩
                    refine .inl ⟨_, W, rfl, e9, Below.refl _ _⟩
                  refine And.intro ?_ ?_
                  · intro d hd ρ W hcs bw hn hg
                    cases hd
                    have eg : ρ (.tmp 131) = .bool false := hg _ _ _ _ rfl rfl rfl
                    have e132 : ρ (.tmp 132) = .slice (some ad) n c := hn 132 (by decide)
                    have e133 : ρ (.tmp 133) = .int .i64 (i : Int) := hn 133 (by decide)
                    clear hn hg
                    refine .inl ⟨⟨_, _, rfl, rfl, eg⟩, ?_⟩
                    refine .inl ⟨.pointer (some (ad.add (i * 7))), W, ?_, rfl, Below.refl _ _⟩
                    go_simp
                  refine And.intro ?_ ?_
                  · intro d hd ρ W hcs bw hn hg
                    cases hd
                    have eg : ρ (.tmp 131) = .bool false := hg _ _ _ _ rfl rfl rfl
                    have e134 : ρ (.tmp 134) = .pointer (some (ad.add (i * 7))) := hn 134 (by decide)
                    clear hn hg
                    refine .inl ⟨⟨_, _, rfl, rfl, eg⟩, ?_⟩
                    refine .inl ⟨.pointer (some { block := (ad.add (i * 7)).block, off := (ad.add (i * 7)).off + 1 }), W, ?_, rfl, Below.refl _ _⟩
                    go_simp
                  refine And.intro ?_ ?_
                  · intro d hd ρ W hcs bw hn hg
                    cases hd
                    have eg : ρ (.tmp 131) = .bool false := hg _ _ _ _ rfl rfl rfl
                    have e135 : ρ (.tmp 135) = .pointer (some { block := (ad.add (i * 7)).block, off := (ad.add (i * 7)).off + 1 }) := hn 135 (by decide)
                    clear hn hg
                    refine .inl ⟨⟨_, _, rfl, rfl, eg⟩, ?_⟩
                    have z0 : W.cell? { block := (ad.add (i * 7)).block, off := (ad.add (i * 7)).off + 1 } = some (.int .u32 (xq : Int)) := (bw.cell (by exact b1d)).trans c1d
                    refine .inl ⟨.int .u32 (xq : Int), W, ?_, rfl, Below.refl _ _⟩
                    go_simp
                  refine And.intro ?_ ?_
                  · intro d hd ρ W hcs bw hn hg
                    cases hd
                    have eg : ρ (.tmp 131) = .bool false := hg _ _ _ _ rfl rfl rfl
                    have e7 : ρ (.tmp 7) = .pointer (some ⟨gb, 0, none⟩) := hn 7 (by decide)
                    clear hn hg
                    refine .inl ⟨⟨_, _, rfl, rfl, eg⟩, ?_⟩
                    refine .inl ⟨.pointer (some ⟨gb, 2, none⟩), W, ?_, rfl, Below.refl _ _⟩
                    go_simp
                  refine And.intro ?_ ?_
                  · intro d hd ρ W hcs bw hn hg
                    cases hd
                    have eg : ρ (.tmp 131) = .bool false := hg _ _ _ _ rfl rfl rfl
                    have e137 : ρ (.tmp 137) = .pointer (some ⟨gb, 2, none⟩) := hn 137 (by decide)
                    clear hn hg
                    refine .inl ⟨⟨_, _, rfl, rfl, eg⟩, ?_⟩
                    refine .inl ⟨.pointer (some ⟨gb, 3, none⟩), W, ?_, rfl, Below.refl _ _⟩
                    go_simp
                  refine And.intro ?_ ?_
                  · intro d hd ρ W hcs bw hn hg
                    cases hd
                    have eg : ρ (.tmp 131) = .bool false := hg _ _ _ _ rfl rfl rfl
                    have e138 : ρ (.tmp 138) = .pointer (some ⟨gb, 3, none⟩) := hn 138 (by decide)
                    clear hn hg
                    refine .inl ⟨⟨_, _, rfl, rfl, eg⟩, ?_⟩
                    have z0 : W.cell? ⟨gb, 3, none⟩ = some (.int .u32 (xb : Int)) := (Blk.below hbd bw (Blk.lt hbd)).cell 3
                    refine .inl ⟨.int .u32 (xb : Int), W, ?_, rfl, Below.refl _ _⟩
                    go_simp
                  refine And.intro ?_ ?_
                  · intro d hd ρ W hcs bw hn hg
                    cases hd
                    have eg : ρ (.tmp 131) = .bool false := hg _ _ _ _ rfl rfl rfl
                    have e136 : ρ (.tmp 136) = .int .u32 (xq : Int) := hn 136 (by decide)
                    have e139 : ρ (.tmp 139) = .int .u32 (xb : Int) := hn 139 (by decide)
                    clear hn hg
                    refine .inl ⟨⟨_, _, rfl, rfl, eg⟩, ?_⟩
                    refine .inl ⟨.bool true, W, ?_, rfl, Below.refl _ _⟩
                    go_simp
                  refine And.intro ?_ ?_
                  · intro d hd ρ W hcs bw hn hg
                    cases hd
                    have eg : ρ (.tmp 128) = .bool true := hg _ _ _ _ rfl rfl rfl
                    have e131 : ρ (.tmp 131) = .bool false := hn 131 (by decide)
                    have e140 : ρ (.tmp 140) = .bool true := hn 140 (by decide)
                    clear hn hg
                    refine .inl ⟨⟨_, _, rfl, rfl, eg⟩, ?_⟩
                    have hc1 := hcs.1
                    refine .inl ⟨.bool true, W, ?_, rfl, Below.refl _ _⟩
                    go_simp
                  refine And.intro ?_ ?_
                  · intro d hd ρ W hcs bw hn hg
                    cases hd
                    have e128 : ρ (.tmp 128) = .bool true := hn 128 (by decide)
                    have e141 : ρ (.tmp 141) = .bool true := hn 141 (by decide)
                    clear hn hg
                    refine .inl ⟨trivial, ?_⟩
                    have hc1 := hcs.1
                    refine .inl ⟨.bool true, W, ?_, rfl, Below.refl _ _⟩
                    go_simp
                  trivial
                · intro a' w' hsz hdf hb hVs
                  have q142 : a'.eval (.tmp 142) = .bool true := hVs 142
                  have ha := slot_over_seg 126 17 [] rfl (by kernel_rfl) (of_decide_eq_true (by kernel_rfl)) hsz hdf hVs
                  clear hVs hsz hdf
                  rw [show List.range' 126 17 = [126, 127, 128, 129, 130, 131, 132, 133, 134, 135, 136, 137, 138, 139, 140, 141, 142] from rfl] at ha
                  simp only [List.take_succ_cons, List.take_zero, List.drop_succ_cons, List.drop_zero, List.map_cons, List.map_nil, List.cons_append, List.nil_append, List.foldl_cons, List.foldl_nil, List.set_cons_zero, List.set_cons_succ, q142] at ha
                  clear q142
                  generalize a'.eval (.tmp 126) = x126 at ha
                  generalize a'.eval (.tmp 127) = x127 at ha
                  generalize a'.eval (.tmp 128) = x128 at ha
                  generalize a'.eval (.tmp 129) = x129 at ha
                  generalize a'.eval (.tmp 130) = x130 at ha
                  generalize a'.eval (.tmp 131) = x131 at ha
                  generalize a'.eval (.tmp 132) = x132 at ha
                  generalize a'.eval (.tmp 133) = x133 at ha
                  generalize a'.eval (.tmp 134) = x134 at ha
                  generalize a'.eval (.tmp 135) = x135 at ha
                  generalize a'.eval (.tmp 136) = x136 at ha
                  generalize a'.eval (.tmp 137) = x137 at ha
                  generalize a'.eval (.tmp 138) = x138 at ha
                  generalize a'.eval (.tmp 139) = x139 at ha
                  generalize a'.eval (.tmp 140) = x140 at ha
                  generalize a'.eval (.tmp 141) = x141 at ha
                  subst ha
                  have c1 := (hb.cell (by exact b1d)).trans c1d
                  have b1 := Nat.lt_of_lt_of_le b1d hb.size
                  have F := FD.below hb
                  have hb2 := hbd.below hb hbd.lt
                  clear FD hbd hb c1d b1d
                  have hb := hb2
                  clear hb2
                  obtain ⟨w6, hw5⟩ : ∃ w6 : World, w6 = w' := ⟨_, rfl⟩
                  rw [← hw5] at F hb c1 b1 ⊢
                  clear hw5
                  have HW := Lib.hid F
                  have HGD2 := Lib.hid hgd2
                  clear F hgd2 c1 b1
                  have HI : Hid (∀ j : Nat, j < n → (((j : Int) != (i : Int)) = decide (j ≠ i))) := fun j hj => by
                    by_cases h : j = i
                    · rw [decide_eq_false (by simp [h]), h]; simp
                    · rw [decide_eq_true h]; exact bne_iff_ne.2 (by omega)
                  go_wp2_with fail
                  go_loopg [12, 13] n (fun gk v12 v13 wz => ∃ (j : Nat) (r : Value), j + gk = n ∧ v13 = .int .i64 (j : Int) ∧ r = v12 ∧ wz.ownsRow w6.heap.size 36 7 r ((m.take j).eraseIdx i).length (((m.take j).eraseIdx i).flatMap cmL) ∧ Below w6.heap.size w6 wz)
                  case atStart => exact ⟨0, _, by omega, rfl, rfl, (by simpa using World.ownsRow_nil _ _ _ _), Below.refl _ _⟩
                  case round =>
                    obtain ⟨j, r, hj, rfl, rfl, ho, bz⟩ := hrel
                    by_cases h6 : j < n
                    · have hk6 : (j : Int) < (n : Int) := by omega
                      obtain ⟨y, hy⟩ : ∃ y, m[j]? = some y := ⟨_, List.getElem?_eq_getElem (by rw [HN.out]; exact h6)⟩
                      have hes := erase_succ (i := i) hy
                      have hdj := HI.out j h6
                      by_cases hji : j = i
                      · rw [decide_eq_false (by simp [hji])] at hdj
                        rw [if_pos hji] at hes
                        rw [← hes] at ho
                        have HO := Lib.hid ho
                        clear hes hji hy ho
                        go_wp2_with fail
                        go_roundg (n - (j + 1))
                        case measure => omega
                        case rel => exact ⟨j + 1, r, by omega, by go_num, rfl, HO.out, bz⟩
                      · rw [decide_eq_true hji] at hdj
                        rw [if_neg hji] at hes
                        obtain ⟨ad2, had2, hadl, z0, z1⟩ := HW.out.rf.r.at_ hy
                        obtain rfl := Option.some.inj had2
                        have hadb : (ad.add (j * 7)).block < w6.heap.size := by rw [block_of_add]; exact hadl
                        have hnew := cm_row (Blk.new wr 36 (cmC y))
                        have hba : Below w6.heap.size w6 (wr.alloc (.cells (cmC y) 36)) := bz.alloc bz.size _
                        have ho2 : (wr.alloc (.cells (cmC y) 36)).ownsRow w6.heap.size 36 7 r _ _ := own_below (h0 := wr.heap.size) ho ((Below.refl _ wr).alloc (Nat.le_refl _) _) (fun q hq => (ho.lt q hq).2)
                        have hlj : ((m.take j).eraseIdx i).length ≤ 300 := by have h1 := List.length_eraseIdx_le (m.take j) i; have h2 : (m.take j).length ≤ j := (by rw [List.length_take]; omega); omega
                        obtain ⟨r', w7, happ, ho7, hg7, _⟩ := app_any (base := w6.heap.size) hba.size ho2 hnew (c := 1) (by simp only [List.length_cons, List.length_nil]; omega) 30
                        rw [← hes] at ho7
                        have bz7 := hba.grown hg7 hba.size (fun q hq => (ho.lt q hq).1)
                        obtain ⟨ya, yb, yk, ys, yt, yu, yz⟩ := y
                        have q0 : wr.cell? (ad.add (j * 7)) = some (.int .u8 (ya : Int)) := (bz.cell hadb).trans (z0 _ rfl)
                        have q1 : wr.cell? { block := (ad.add (j * 7)).block, off := (ad.add (j * 7)).off + 1 } = some (.int .u32 (yb : Int)) := (bz.cell (by exact hadb)).trans (z1 0 _ rfl)
                        have q2 : wr.cell? { block := (ad.add (j * 7)).block, off := (ad.add (j * 7)).off + 2 } = some (.int .u8 (yk : Int)) := (bz.cell (by exact hadb)).trans (z1 1 _ rfl)
                        have q3 : wr.cell? { block := (ad.add (j * 7)).block, off := (ad.add (j * 7)).off + 3 } = some (.string ⟨ys.toArray⟩) := (bz.cell (by exact hadb)).trans (z1 2 _ rfl)
                        have q4 : wr.cell? { block := (ad.add (j * 7)).block, off := (ad.add (j * 7)).off + 4 } = some (.string ⟨yt.toArray⟩) := (bz.cell (by exact hadb)).trans (z1 3 _ rfl)
                        have q5 : wr.cell? { block := (ad.add (j * 7)).block, off := (ad.add (j * 7)).off + 5 } = some (.string ⟨yu.toArray⟩) := (bz.cell (by exact hadb)).trans (z1 4 _ rfl)
                        have q6 : wr.cell? { block := (ad.add (j * 7)).block, off := (ad.add (j * 7)).off + 6 } = some (.int .u8 (yz : Int)) := (bz.cell (by exact hadb)).trans (z1 5 _ rfl)
                        unfold cmC at happ hba ho2 hnew
                        dsimp only at happ hba ho2 hnew
                        have HO := Lib.hid (And.intro ho7 bz7)
                        clear hes hji hy ho z0 z1 hnew hba ho2 hlj ho7 bz7 hg7
                        go_wp2_with (refine wpList_run_append (by rfl) (.tmp 152) (.tmp 157) 30 (by rfl) (by rfl) (by rfl) happ ?_)
                        clear q0 q1 q2 q3 q4 q5 q6 happ
                        go_roundg (n - (j + 1))
                        case measure => omega
                        case rel => exact ⟨j + 1, r', by omega, by go_num, rfl, HO.out.1, HO.out.2⟩
                    · have hk6 : ¬ (j : Int) < (n : Int) := by omega
                      obtain rfl : n = j := by omega
                      rw [List.take_of_length_le (by rw [HN.out]; omega)] at ho
                      have hb := hb.below bz hb.lt
                      have hnew := cm_row (Blk.new wr 36 (cmC ⟨xa, xb, xk, xs, xt, xu, xz⟩))
                      have hba : Below w6.heap.size w6 (wr.alloc (.cells (cmC ⟨xa, xb, xk, xs, xt, xu, xz⟩) 36)) := bz.alloc bz.size _
                      have ho2 : (wr.alloc (.cells (cmC ⟨xa, xb, xk, xs, xt, xu, xz⟩) 36)).ownsRow w6.heap.size 36 7 r _ _ := own_below (h0 := wr.heap.size) ho ((Below.refl _ wr).alloc (Nat.le_refl _) _) (fun q hq => (ho.lt q hq).2)
                      have hml : (m.eraseIdx i).length ≤ n := by have h1 := List.length_eraseIdx_le m i; have := HN.out; omega
                      obtain ⟨r', w7, happ, ho7, hg7, _⟩ := app_any (base := w6.heap.size) hba.size ho2 hnew (c := 1) (by simp only [List.length_cons, List.length_nil]; omega) 30
                      have bz7 := hba.grown hg7 hba.size (fun q hq => (ho.lt q hq).1)
                      obtain ⟨A', c', hr', hc', F'⟩ := (HW.out.below bz7).want HW.out ho7
                      subst hr'
                      obtain ⟨n', hn'⟩ : ∃ n', ((m.eraseIdx i) ++ [(⟨xa, xb, xk, xs, xt, xu, xz⟩ : Cm)]).length = n' := ⟨_, rfl⟩
                      rw [hn'] at happ hc'
                      have HN2 := Lib.hid hn'
                      have hlg2 : lg.length + n' ≤ k + 1 := by rw [← hn', List.length_append]; simp only [List.length_cons, List.length_nil]; have := HLG.out; omega
                      have HLG2 := Lib.hid hlg2
                      clear hn' hlg2
                      unfold cmC at happ hba ho2 hnew
                      dsimp only at happ hba ho2 hnew
                      have HF := Lib.hid (And.intro F' (And.intro hc' hml))
                      clear ho hnew hba ho2 ho7 bz7 hg7 F' hc' hml
                      have y2 := hb.cell 2
                      have y3 := hb.cell 3
                      have y4 := hb.cell 4
                      have y5 := hb.cell 5
                      have y6 := hb.cell 6
                      have y7 := hb.cell 7
                      have y8 := hb.cell 8
                      go_wp2_with (refine wpList_run_append (by rfl) (.tmp 159) (.tmp 162) 30 (by rfl) (by rfl) (by rfl) happ ?_)
                      go_roundg (ln - (k + 1))
                      case measure => omega
                      case rel => exact ⟨k + 1, n', (m.eraseIdx i) ++ [⟨xa, xb, xk, xs, xt, xu, xz⟩], v', A', c', u, lg, by omega, by go_num, rfl, rfl, HN2, HF.out.2.1, HLG2, HGD2, HF.out.1⟩
    · have hk4 : ¬ (k : Int) < (ln : Int) := by omega
      have hmk : (Instr.makeMap 66 none).run Try.prog wr = .ok (.map (some wr.heap.size)) (wr.alloc (.map #[] 0)) := by simp [Instr.makeMap]
      have hbr := F.bw.size
      have hma : Below wr.heap.size wr (wr.alloc (.map #[] 0)) := (Below.refl _ wr).alloc (Nat.le_refl _) _
      have hgm0 : SeenAt (wr.alloc (.map #[] 0)) wr.heap.size .u8 [] := ⟨#[], 0, heap_alloc_new wr _, rfl⟩
      have F1 := F.below hma
      have hfl : m ≠ [] → ∀ ad, A = some ad → ad.block < wr.heap.size := fun hn ad e => (F.rf.f hn ad e).lt
      clear hma F
      go_upto_region 33 with fail
      obtain ⟨gm, hgm⟩ : ∃ gm, gm = wr.heap.size := ⟨_, rfl⟩
      have hgmw : w.heap.size ≤ gm := by rw [hgm]; exact hbr
      rw [← hgm] at hgm0 hfl ⊢
      clear hmk
      generalize wr.alloc (.map #[] 0) = wm at *
      clear hgm hbr
      go_wp2_with fail
      refine (all_q F1.q F1.hB (by have := HM.out; have := HN.out; omega)).mono ?_; rintro e w3 ⟨ua, rfl, lu, _, hua, B3⟩
      have hgl := hgm0.lt
      have HSN := Lib.hid (hgm0.below B3 hgl)
      have F := F1.below B3
      have hun : ∀ r, ua.ownBlock = some r → r ≠ gm := fun r hr => by have := hua r hr; omega
      obtain ⟨A2, c2, hu, _, _⟩ := lu.slice
      rw [HN.out] at hu
      subst hu
      have HF := Lib.hid F
      have HLU := Lib.hid lu
      have HUN := Lib.hid hun
      have HFL := Lib.hid hfl
      have HBW := Lib.hid F.bw
      clear hgm0 hgl B3 F1 F lu hua hun hfl
      have hn3 : n ≤ 300 := by have := HM.out; omega
      have hzb : ∀ W, (zeroValue 4).run Try.prog W = .ok (.bool false) W := fun W => by go_simp
      have HZB := Lib.hid hzb
      clear hzb
      go_wp2_with fail
      go_loopg [16] n (fun gk v16 wz => ∃ i : Nat, i + gk = n ∧ v16 = .int .i64 (i : Int) ∧ SeenAt wz gm .u8 ((m.take i).map (·.client)) ∧ Lies wz B (.slice A2 n c2) m ∧ Below w.heap.size w wz ∧ Below gm w3 wz)
      case atStart => exact ⟨0, by omega, rfl, (by simpa using HSN.out), HLU.out, HBW.out, Below.refl _ _⟩
      case round =>
        obtain ⟨i, hi, rfl, hs, lz, bw, bg⟩ := hrel
        by_cases h5 : i < n
        · have hk5 : (i : Int) < (n : Int) := by omega
          obtain ⟨x, hx⟩ : ∃ x, m[i]? = some x := ⟨_, List.getElem?_eq_getElem (by rw [HN.out]; exact h5)⟩
          obtain ⟨A3, c3, hu3, rr, _⟩ := lz.slice
          rw [HN.out] at hu3
          cases hu3
          obtain ⟨ad, rfl, hadl, z0, _⟩ := rr.at_ hx
          have q0 := z0 _ rfl
          have hx4 : x.client < 4 := HGD.out.2 x (List.mem_of_getElem? hx)
          have hnm : x.client ∉ (m.take i).map (·.client) := fun hm => by
            obtain ⟨y, hy, he⟩ := List.mem_map.1 hm
            obtain ⟨j, hj⟩ := List.getElem?_of_mem hy
            rw [List.getElem?_take] at hj
            split at hj
            · rename_i hji
              have := uniq_at HGD.out.1 hj hx he
              omega
            · cases hj
          have hlk := seen_look (P := Try.prog) hs Try.underlying66 Try.underlying5 (.bool false) (HZB.out _) x.client hnm
          obtain ⟨wz', hup, hs', hbl, hbk⟩ := seen_put (P := Try.prog) hs Try.underlying66 Try.underlying5 (.bool true) x.client hnm
          have hs2 : SeenAt wz' gm .u8 ((m.take (i + 1)).map (·.client)) := by rw [List.take_add_one, hx, List.map_append]; exact hs'
          have lz2 : Lies wz' B (.slice (some ad) n c2) m := lz.keep (fun r cs hr hb => hbk r _ cs hb (HUN.out r hr))
          have bw2 := hbl _ _ bw hgmw
          have bg2 := hbl _ _ bg (Nat.le_refl _)
          have HQ := Lib.hid (And.intro hs2 (And.intro lz2 (And.intro bw2 bg2)))
          generalize x.client = xc at *
          have hx4i : ¬ 4 ≤ (xc : Int) := by omega
          clear hx4 hnm hs hs' hbl hbk hs2 lz2 bw2 bg2 lz bw bg z0 rr hx
          go_wp2_with fail
          go_roundg (n - (i + 1))
          case measure => omega
          case rel => exact ⟨i + 1, by omega, by go_num, HQ.out.1, HQ.out.2.1, HQ.out.2.2.1, HQ.out.2.2.2⟩
        · have hk5 : ¬ (i : Int) < (n : Int) := by omega
          obtain ⟨A3, c3, hu3, rr, _⟩ := lz.slice
          rw [HN.out] at hu3
          cases hu3
          have rA : Rows wr A 7 cmL m := by
            by_cases hm : m = []
            · rw [hm]; exact Rows.nil _ _ _ _
            · intro kk x hkx
              obtain ⟨ad, e, hlt, h0⟩ := HF.out.rf.r kk x hkx
              exact ⟨ad, e, Nat.lt_of_lt_of_le hlt bg.size, fun j uu hu => (bg.cell (by rw [block_of_add]; exact HFL.out hm ad e)).trans (h0 j uu hu)⟩
          have HS := Lib.hid (same_self m n HN.out (by omega) A2 A c2 c wr rr rA)
          obtain ⟨A5, c5, hu5⟩ := own_slice HF.out.gf.own
          subst hu5
          have hgl : (lg.length : Int) ≤ (ln : Int) := by have := HLG.out; omega
          clear rr rA lz hs
          go_wp2_with fail
          refine HS.out.mono ?_; rintro e w5 ⟨rfl, B5⟩
          have bw := bw.trans (B5.mono bw.size)
          clear HS B5 bg
          go_wp2_with fail
          refine (wakes_any _).mono ?_; rintro e w6 ⟨rfl, B6⟩
          have bz := bw.trans (B6.mono bw.size)
          go_wp2_with fail
          go_ret
          exact ⟨rfl, bz⟩
end Go.Proofs.Ytgpdggojajjppaa.Bat
