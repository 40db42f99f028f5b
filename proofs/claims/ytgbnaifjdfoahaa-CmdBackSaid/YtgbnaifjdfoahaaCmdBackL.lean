/- The law CmdBack walked. Conditions: the arguments can be read. -/
import Derived.Test.YtgbnaifjdfoahaaCmdReadsL
import Derived.Test.YtgbnaifjdfoahaaCmdGreat
import Derived.Deep.DeepCutAuto
namespace Go.Proofs.Ytgbnaifjdfoahaa.Cmd
open Go.RowKit Wire

theorem batchC_err (l : List Cm) : (batchC l).2 = 0 ∨ (batchC l).2 = 2 := by
  unfold batchC
  split
  · exact .inr rfl
  · split <;> exact .inl rfl
theorem cmsB_len (l : List Cm) (h : AllMay l) : (cmsB l).length ≤ 400 * l.length := by
  induction l with
  | nil => exact Nat.le_refl _
  | cons c l ih =>
    have h1 := ih (fun x hx => h x (by simp [hx]))
    have h2 := oneB_len (h c (by simp)).1 (h c (by simp)).2
    have e : cmsB (c :: l) = oneB c ++ cmsB l := by simp [cmsB]
    rw [e, List.length_append, List.length_cons]
    omega
theorem batchC_len (l : List Cm) (hf : ∀ c ∈ l, c.Fits) : (batchC l).1.length ≤ 2000 := by
  rcases batchC_err l with h | h
  · obtain ⟨h4, hm⟩ := batch_ok hf h
    by_cases hn : l = []
    · subst hn; exact Nat.zero_le _
    · rw [batch_is h4 hm hn]
      have := cmsB_len l hm
      simp only [List.length_cons]
      omega
  · unfold batchC at h ⊢
    split
    · exact Nat.zero_le _
    · rename_i hx
      rw [if_neg hx] at h
      split at h <;> cases h
set_option linter.unusedSimpArgs false in
set_option maxRecDepth 100000 in
set_option maxHeartbeats 16000000 in
theorem cback_any (l m : List Cm) (hf : ∀ c ∈ l, c.Fits) (hg : ∀ c ∈ m, c.Fits) (hl : l.length ≤ 9223372036854775807) (hm : m.length ≤ 9223372036854775807) (s : List UInt8) (hs : s.length ≤ 9223372036854775807) (A B : Option Addr) (ca cb : Nat) (w : World) (hA : Rows w A 7 cmL l) (hB : Rows w B 7 cmL m) :
    Calls Try.prog 12 #[.slice A l.length ca, .slice B m.length cb, .string ⟨s.toArray⟩] w fun e w' => e = .returned (.bool true) ∧ Below w.heap.size w w' := by
  have sz := size_str s
  have HGL := Lib.hid (fun W h => great_any l hl A ca W h)
  have HGM := Lib.hid (fun W h => great_any m hm B cb W h)
  have HBA := Lib.hid (fun W h => batch_any l hf hl A ca W h)
  have HBM := Lib.hid (fun W h => batch_any m hg hm B cb W h)
  have HSA := Lib.hid (fun W h1 h2 => same_any l m hl hm A B ca cb W h1 h2)
  have HSG := Lib.hid (fun (A' : Option Addr) (c' : Nat) W h1 h2 => by
    have h := same_any l l hl hl A' A c' ca W h1 h2
    rw [show decide (l = l) = true from by simp] at h
    exact h)
  have hinj := fun h h' => batch_inj (l := l) (m := m) hf hg h h'
  have hpar := fun h => parse_batch (l := l) hf h
  have hmor := fun h => parse_more (l := l) hf h
  have hles := fun h hn => parse_less (l := l) hf h hn
  have hlen := batchC_len l hf
  have he1 := batchC_err l
  have he2 := batchC_err m
  generalize greatB l = gl at *
  generalize greatB m = gm at *
  generalize batchC l = pl at *
  generalize batchC m = pm at *
  obtain ⟨S1, E1⟩ := pl
  obtain ⟨S2, E2⟩ := pm
  simp only at hinj hpar hmor hles hlen he1 he2
  have HINJ := Lib.hid hinj
  have HPAR := Lib.hid hpar
  have HMOR := Lib.hid hmor
  have HLES := Lib.hid hles
  have HE1 := Lib.hid he1
  have HE2 := Lib.hid he2
  clear hf hg hinj hpar hmor hles he1 he2
  go_enter Try.func12, Try.ntmps12
  go_wp2_with fail
  refine (HGL.out _ hA).mono ?_; rintro e w1 ⟨rfl, B1⟩
  have hA1 := hA.below B1
  have hB1 := hB.below B1
  clear hA hB HGL
  cases gl
  rotate_left
  · clear HGM HBA HBM HSA HSG HINJ HPAR HMOR HLES HE1 HE2
    go_wp2_with fail
    refine (wakes_any _).mono ?_; rintro e wz ⟨rfl, Bz⟩
    have bwz := B1.trans (Bz.mono B1.size)
    go_wp2_with fail
    go_ret
    exact ⟨rfl, bwz⟩
  go_wp2_with fail
  refine (HGM.out _ hB1).mono ?_; rintro e w2 ⟨rfl, B2⟩
  have hA2 := hA1.below B2
  have hB2 := hB1.below B2
  have bw2 := B1.trans (B2.mono B1.size)
  clear hA1 hB1 HGM B1 B2
  cases gm
  rotate_left
  · clear HBA HBM HSA HSG HINJ HPAR HMOR HLES HE1 HE2
    go_wp2_with fail
    refine (wakes_any _).mono ?_; rintro e wz ⟨rfl, Bz⟩
    have bwz := bw2.trans (Bz.mono bw2.size)
    go_wp2_with fail
    go_ret
    exact ⟨rfl, bwz⟩
  by_cases h2 : 2000 < s.length
  · have h2i : (2000 : Int) < (s.length : Int) := by omega
    clear HBA HBM HSA HSG HINJ HPAR HMOR HLES HE1 HE2
    go_wp2_with fail
    refine (wakes_any _).mono ?_; rintro e wz ⟨rfl, Bz⟩
    have bwz := bw2.trans (Bz.mono bw2.size)
    go_wp2_with fail
    go_ret
    exact ⟨rfl, bwz⟩
  have h2i : ¬ (2000 : Int) < (s.length : Int) := by omega
  go_wp2_with fail
  refine (HBA.out _ hA2).mono ?_; rintro e w3 ⟨rfl, B3⟩
  have hA3 := hA2.below B3
  have hB3 := hB2.below B3
  have bw3 := bw2.trans (B3.mono bw2.size)
  clear hA2 hB2 HBA B3 bw2
  go_wp2_with fail
  refine (HBM.out _ hB3).mono ?_; rintro e w4 ⟨rfl, B4⟩
  have hA4 := hA3.below B4
  have hB4 := hB3.below B4
  have bw4 := bw3.trans (B4.mono bw3.size)
  clear hA3 hB3 HBM B4 bw3
  go_upto_region 5 with fail
  go_cut [57] (fun v wx => v = .bool false ∧ Below w4.heap.size w4 wx)
  case first =>
    -- [[
    rcases HE1.out with rfl | rfl
    · rcases HE2.out with rfl | rfl
      · have hin := HINJ.out rfl rfl
        by_cases hlm : l = m
        · have hss := hin.2 hlm
          have hd : decide (l = m) = true := decide_eq_true hlm
          rw [hd] at HSA
          subst hss
          clear HSG HINJ HPAR HMOR HLES HE1 HE2 hin hlm hd
          go_wp2_with fail
          refine (HSA.out _ hA4 hB4).mono ?_; rintro e w5 ⟨rfl, B5⟩
          go_wp2_with fail
          go_meet
          exact ⟨rfl, B5⟩
        · have hss : ¬ S1 = S2 := fun h => hlm (hin.1 h)
          have hd : decide (l = m) = false := decide_eq_false hlm
          rw [hd] at HSA
          clear HSG HINJ HPAR HMOR HLES HE1 HE2 hin hlm hd
          go_wp2_with fail
          refine (HSA.out _ hA4 hB4).mono ?_; rintro e w5 ⟨rfl, B5⟩
          go_wp2_with fail
          go_meet
          exact ⟨by rw [beq_eq_false_iff_ne.2 hss], B5⟩
      · clear HSG HINJ HPAR HMOR HLES HE1 HE2
        go_wp2_with fail
        go_meet
        exact ⟨rfl, Below.refl _ _⟩
    · clear HSG HINJ HPAR HMOR HLES HE1 HE2
      go_wp2_with fail
      go_meet
      exact ⟨rfl, Below.refl _ _⟩
    -- ]]
  case rest =>
    obtain ⟨rfl, B5⟩ := hcut
    have hA5 := hA4.below B5
    have bw5 := bw4.trans (B5.mono bw4.size)
    clear hA4 hB4 bw4 B5 HSA HINJ HE2
    go_upto_if 59 with fail
    go_cut [] (fun wx => Below wc.heap.size wc wx)
    case first =>
      rcases HE1.out with rfl | rfl
      rotate_left
      · clear HPAR HMOR HLES HE1 HSG
        go_wp2_with fail
        go_meet
        exact Below.refl _ _
      have hpp := HPAR.out rfl
      have hmm := HMOR.out rfl
      have hP1 := fun W => parse_any S1 (by omega) W
      rw [hpp] at hP1
      have HP1 := Lib.hid hP1
      have hP2 := fun W => parse_any (S1 ++ [0]) (by rw [List.length_append]; simp only [List.length_cons, List.length_nil]; omega) W
      generalize parseC (S1 ++ [0]) = p2 at *
      obtain ⟨l2, e2⟩ := p2
      obtain rfl : e2 = 4 := hmm
      have HP2 := Lib.hid hP2
      have ad := add_str S1 [0]
      have sz1 := size_str S1
      have lt1 : ¬ (9223372036854775807 < S1.length + 1) := by omega
      clear hpp hP1 hP2 HPAR HMOR HE1
      simp only at HP1 HP2
      go_wp2_with fail
      refine (HP1.out _).mono ?_; rintro e w6 ⟨A6, c6, rfl, r6, B6⟩
      have hA6 := hA5.below B6
      clear HP1
      go_wp2_with fail
      refine (HP2.out _).mono ?_; rintro e w7 ⟨A7, c7, rfl, r7, B7⟩
      have hA7 := hA6.below B7
      have r7' := r6.below B7
      have b7 := B6.trans (B7.mono B6.size)
      clear HP2 r6 r7 hA6 B6 B7 ad lt1
      go_wp2_with fail
      refine (HSG.out A6 c6 _ r7' hA7).mono ?_; rintro e w8 ⟨rfl, B8⟩
      have b8 := b7.trans (B8.mono b7.size)
      clear HSG r7' hA7 B8 b7
      by_cases hn : l = []
      · subst hn
        clear HLES
        go_wp2_with fail
        go_meet
        exact b8
      · obtain ⟨q1, q2⟩ := HLES.out (by trivial) hn
        have hP3 := fun W => parse_any S1.dropLast (by rw [List.length_dropLast]; omega) W
        rw [q2] at hP3
        have HP3 := Lib.hid hP3
        have hp := List.length_pos_iff.2 hn
        have hpi : (0 : Int) < (l.length : Int) := by omega
        have hsl : ∀ W, (Instr.slice 9 (.string ⟨S1.toArray⟩) none (some (.int .i64 ((S1.length : Int) - 1))) none).run Try.prog W = .ok (.string ⟨S1.dropLast.toArray⟩) W := fun W => by
          rw [run_slice_string_h W 9 ⟨S1.toArray⟩ Try.underlying9 .i64 ((S1.length : Int) - 1) (by omega) (by rw [sz1]; omega)]
          have e : ((S1.length : Int) - 1).toNat = S1.length - 1 := by omega
          rw [e, take_str, List.dropLast_eq_take]
        have hq : (1 : Int) < (S1.length : Int) := by omega
        have hie : S1.isEmpty = false := List.isEmpty_eq_false_iff.2 (fun h => by rw [h] at q1; simp at q1)
        clear HLES q1 q2 hP3 hn hp
        go_wp2_with fail
        refine (HP3.out _).mono ?_; rintro e w9 ⟨A9, c9, rfl, r9, B9⟩
        have b9 := b8.trans (B9.mono b8.size)
        clear HP3 r9 b8 B9
        go_wp2_with fail
        go_meet
        exact b9
    case rest =>
      have bw6 := bw5.trans (hcut.mono bw5.size)
      clear HE1 HSG HPAR HMOR HLES hA5 bw5 hcut
      have hP := fun W => parse_any s (by omega) W
      have hga := parse_again s
      have hge := parse_errs s
      have hgl := parseC_len s
      generalize parseC s = p at *
      obtain ⟨got, g⟩ := p
      simp only at hP hga hge hgl
      have HP := Lib.hid hP
      clear hP
      by_cases hg0 : g = 0
      · subst hg0
        obtain ⟨hb, hfg⟩ := hga rfl
        have hB := fun (A' : Option Addr) (c' : Nat) W h => batch_any got hfg (by omega) A' c' W h
        rw [hb] at hB
        have HB := Lib.hid hB
        clear hga hge hb hfg hB
        go_wp2_with fail
        refine (HP.out _).mono ?_; rintro e w6 ⟨A6, c6, rfl, r6, B6⟩
        have bw7 := bw6.trans (B6.mono bw6.size)
        clear HP bw6 B6
        go_wp2_with fail
        refine (HB.out _ _ _ r6).mono ?_; rintro e w7 ⟨rfl, B7⟩
        have bw8 := bw7.trans (B7.mono bw7.size)
        clear HB r6 bw7 B7
        go_wp2_with fail
        refine (wakes_any _).mono ?_; rintro e wz ⟨rfl, Bz⟩
        have bwz := bw8.trans (Bz.mono bw8.size)
        go_wp2_with fail
        go_ret
        exact ⟨rfl, bwz⟩
      · obtain ⟨rfl, h34⟩ := hge hg0
        have hgi : ((g : Int) != 0) = true := by rw [bne_iff_ne]; omega
        clear hga hge hgl
        go_wp2_with fail
        refine (HP.out _).mono ?_; rintro e w6 ⟨A6, c6, rfl, r6, B6⟩
        have bw7 := bw6.trans (B6.mono bw6.size)
        clear HP bw6 B6 r6
        rcases h34 with rfl | rfl
        · go_wp2_with fail
          refine (wakes_any _).mono ?_; rintro e wz ⟨rfl, Bz⟩
          have bwz := bw7.trans (Bz.mono bw7.size)
          go_wp2_with fail
          go_ret
          exact ⟨rfl, bwz⟩
        · go_wp2_with fail
          refine (wakes_any _).mono ?_; rintro e wz ⟨rfl, Bz⟩
          have bwz := bw7.trans (Bz.mono bw7.size)
          go_wp2_with fail
          go_ret
          exact ⟨rfl, bwz⟩
end Go.Proofs.Ytgbnaifjdfoahaa.Cmd
