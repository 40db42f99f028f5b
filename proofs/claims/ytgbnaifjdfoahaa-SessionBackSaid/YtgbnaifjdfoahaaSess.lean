/- The functions Look and Keep of package session, walked. Conditions: the arguments are of their types. -/
import Derived.Test.YtgbnaifjdfoahaaBase
import Derived.Test.YtgbnaifjdfoahaaProg
import Derived.WalkKit
import Derived.Outline
namespace Go.Proofs.Ytgbnaifjdfoahaa.Sess
open Go.RowKit

/-- A client's last command, and its reply. -/
structure Ent where
  seq : Nat
  code : Nat
  text : ByteArray
def repV (code : Nat) (text : ByteArray) : Value := .agg #[.int .u8 (code : Int), .string text]
def tabC (t : Nat → Ent) : Array Value :=
  #[.int .u32 ((t 0).seq : Int), .int .u8 ((t 0).code : Int), .string (t 0).text, .int .u32 ((t 1).seq : Int), .int .u8 ((t 1).code : Int), .string (t 1).text,
    .int .u32 ((t 2).seq : Int), .int .u8 ((t 2).code : Int), .string (t 2).text, .int .u32 ((t 3).seq : Int), .int .u8 ((t 3).code : Int), .string (t 3).text]
def tabV (t : Nat → Ent) : Value := .agg (tabC t)

def noText : ByteArray := ⟨#[]⟩
/-- What Look answers: the reply's code, its text, what the command is. -/
def lookN (t : Nat → Ent) (client seq : Nat) : Nat × ByteArray × Nat :=
  if 4 ≤ client ∨ seq = 0 then (2, noText, 0)
  else if (t client).seq < seq then (0, noText, 1)
  else if seq = (t client).seq then ((t client).code, (t client).text, 2)
  else (3, noText, 3)
def LookRet (r : Nat × ByteArray × Nat) (e : Ending) : Prop :=
  e = .returned (.tuple #[.agg #[.int .u8 (r.1 : Int), .string r.2.1], .int .u8 (r.2.2 : Int)])
theorem below2 (w : World) (a b : Obj) : Below w.heap.size w ((w.alloc a).alloc b) := ((Below.refl _ w).alloc (Nat.le_refl _) a).alloc (by simp) b
theorem below3 (w : World) (a b c : Obj) : Below w.heap.size w (((w.alloc a).alloc b).alloc c) := (below2 w a b).alloc (by simp <;> omega) c
/-- The world behind Look: a box of the table, the reply, the client's entry. -/
def lookW2 (w : World) (t : Nat → Ent) (code : Int) (text : ByteArray) : World := (w.alloc (.cells (tabC t) 31)).alloc (.cells #[.int .u8 code, .string text] 27)
def lookW3 (w : World) (t : Nat → Ent) (code : Int) (text : ByteArray) (x : Ent) : World := (lookW2 w t code text).alloc (.cells #[.int .u32 (x.seq : Int), .int .u8 (x.code : Int), .string x.text] 29)

set_option maxHeartbeats 1000000 in
theorem look_none (t : Nat → Ent) (client seq : Nat) (h : 4 ≤ client ∨ seq = 0) (w : World) :
    Calls Try.prog 17 #[tabV t, .int .u8 (client : Int), .int .u32 (seq : Int)] w fun e w' => LookRet (2, noText, 0) e ∧ lookW2 w t 2 noText = w' := by
  unfold tabV tabC
  by_cases h4 : 4 ≤ client
  · go_enter Try.func17, Try.ntmps17
    go_wp2
    refine bodyPost_ret (v := .tuple #[.agg #[.int .u8 2, .string noText], .int .u8 0]) (by simp [results, Try.results17, go_sem, noText]) rfl ⟨rfl, rfl⟩
  · obtain rfl : seq = 0 := by omega
    go_enter Try.func17, Try.ntmps17
    go_wp2
    refine bodyPost_ret (v := .tuple #[.agg #[.int .u8 2, .string noText], .int .u8 0]) (by simp [results, Try.results17, go_sem, noText]) rfl ⟨rfl, rfl⟩

set_option maxHeartbeats 1000000 in
theorem look_fresh (t : Nat → Ent) (client seq : Nat) (hc : client < 4) (h : (t client).seq < seq) (w : World) :
    Calls Try.prog 17 #[tabV t, .int .u8 (client : Int), .int .u32 (seq : Int)] w fun e w' => LookRet (0, noText, 1) e ∧ lookW3 w t 0 noText (t client) = w' := by
  unfold tabV tabC
  have h0 : ((seq : Int) == 0) = false := beq_eq_false_iff_ne.2 (by omega)
  match client, hc with
  | 0, _ | 1, _ | 2, _ | 3, _ =>
    go_enter Try.func17, Try.ntmps17
    go_wp2
    refine bodyPost_ret (v := .tuple #[.agg #[.int .u8 0, .string noText], .int .u8 1]) (by simp [results, Try.results17, go_sem, noText]) rfl ⟨rfl, rfl⟩

set_option maxHeartbeats 1000000 in
theorem look_again (t : Nat → Ent) (client : Nat) (hc : client < 4) (h : (t client).seq ≠ 0) (w : World) :
    Calls Try.prog 17 #[tabV t, .int .u8 (client : Int), .int .u32 ((t client).seq : Int)] w fun e w' => LookRet ((t client).code, (t client).text, 2) e ∧ lookW3 w t (t client).code (t client).text (t client) = w' := by
  unfold tabV tabC
  match client, hc with
  | 0, _ =>
    have h0 : (((t 0).seq : Int) == 0) = false := beq_eq_false_iff_ne.2 (by omega)
    go_enter Try.func17, Try.ntmps17
    go_wp2
    refine bodyPost_ret (v := .tuple #[.agg #[.int .u8 (t 0).code, .string (t 0).text], .int .u8 2]) (by simp [results, Try.results17, go_sem]) rfl ⟨rfl, rfl⟩
  | 1, _ =>
    have h0 : (((t 1).seq : Int) == 0) = false := beq_eq_false_iff_ne.2 (by omega)
    go_enter Try.func17, Try.ntmps17
    go_wp2
    refine bodyPost_ret (v := .tuple #[.agg #[.int .u8 (t 1).code, .string (t 1).text], .int .u8 2]) (by simp [results, Try.results17, go_sem]) rfl ⟨rfl, rfl⟩
  | 2, _ =>
    have h0 : (((t 2).seq : Int) == 0) = false := beq_eq_false_iff_ne.2 (by omega)
    go_enter Try.func17, Try.ntmps17
    go_wp2
    refine bodyPost_ret (v := .tuple #[.agg #[.int .u8 (t 2).code, .string (t 2).text], .int .u8 2]) (by simp [results, Try.results17, go_sem]) rfl ⟨rfl, rfl⟩
  | 3, _ =>
    have h0 : (((t 3).seq : Int) == 0) = false := beq_eq_false_iff_ne.2 (by omega)
    go_enter Try.func17, Try.ntmps17
    go_wp2
    refine bodyPost_ret (v := .tuple #[.agg #[.int .u8 (t 3).code, .string (t 3).text], .int .u8 2]) (by simp [results, Try.results17, go_sem]) rfl ⟨rfl, rfl⟩

set_option maxHeartbeats 1000000 in
theorem look_old (t : Nat → Ent) (client seq : Nat) (hc : client < 4) (hs : seq ≠ 0) (h : seq < (t client).seq) (w : World) :
    Calls Try.prog 17 #[tabV t, .int .u8 (client : Int), .int .u32 (seq : Int)] w fun e w' => LookRet (3, noText, 3) e ∧ lookW3 w t 3 noText (t client) = w' := by
  unfold tabV tabC
  have h0 : ((seq : Int) == 0) = false := beq_eq_false_iff_ne.2 (by omega)
  match client, hc with
  | 0, _ =>
    have h1 : ((seq : Int) == ((t 0).seq : Int)) = false := beq_eq_false_iff_ne.2 (by omega)
    go_enter Try.func17, Try.ntmps17
    go_wp2
    refine bodyPost_ret (v := .tuple #[.agg #[.int .u8 3, .string noText], .int .u8 3]) (by simp [results, Try.results17, go_sem, noText]) rfl ⟨rfl, rfl⟩
  | 1, _ =>
    have h1 : ((seq : Int) == ((t 1).seq : Int)) = false := beq_eq_false_iff_ne.2 (by omega)
    go_enter Try.func17, Try.ntmps17
    go_wp2
    refine bodyPost_ret (v := .tuple #[.agg #[.int .u8 3, .string noText], .int .u8 3]) (by simp [results, Try.results17, go_sem, noText]) rfl ⟨rfl, rfl⟩
  | 2, _ =>
    have h1 : ((seq : Int) == ((t 2).seq : Int)) = false := beq_eq_false_iff_ne.2 (by omega)
    go_enter Try.func17, Try.ntmps17
    go_wp2
    refine bodyPost_ret (v := .tuple #[.agg #[.int .u8 3, .string noText], .int .u8 3]) (by simp [results, Try.results17, go_sem, noText]) rfl ⟨rfl, rfl⟩
  | 3, _ =>
    have h1 : ((seq : Int) == ((t 3).seq : Int)) = false := beq_eq_false_iff_ne.2 (by omega)
    go_enter Try.func17, Try.ntmps17
    go_wp2
    refine bodyPost_ret (v := .tuple #[.agg #[.int .u8 3, .string noText], .int .u8 3]) (by simp [results, Try.results17, go_sem, noText]) rfl ⟨rfl, rfl⟩

theorem look_any (t : Nat → Ent) (client seq : Nat) (w : World) :
    Calls Try.prog 17 #[tabV t, .int .u8 (client : Int), .int .u32 (seq : Int)] w fun e w' => LookRet (lookN t client seq) e ∧ Below w.heap.size w w' := by
  unfold lookN
  by_cases h1 : 4 ≤ client ∨ seq = 0
  · rw [if_pos h1]
    exact (look_none t client seq h1 w).mono fun _ _ ⟨he, hw⟩ => ⟨he, hw ▸ below2 _ _ _⟩
  rw [if_neg h1]
  by_cases h2 : (t client).seq < seq
  · rw [if_pos h2]
    exact (look_fresh t client seq (by omega) h2 w).mono fun _ _ ⟨he, hw⟩ => ⟨he, hw ▸ below3 _ _ _ _⟩
  rw [if_neg h2]
  by_cases h3 : seq = (t client).seq
  · rw [if_pos h3]
    subst h3
    exact (look_again t client (by omega) (by omega) w).mono fun _ _ ⟨he, hw⟩ => ⟨he, hw ▸ below3 _ _ _ _⟩
  · rw [if_neg h3]
    exact (look_old t client seq (by omega) (by omega) (by omega) w).mono fun _ _ ⟨he, hw⟩ => ⟨he, hw ▸ below3 _ _ _ _⟩

/-- The table with a fresh command. -/
def keepT (t : Nat → Ent) (client : Nat) (x : Ent) : Nat → Ent :=
  if client < 4 ∧ (t client).seq < x.seq then fun i => if i = client then x else t i else t

set_option maxHeartbeats 2000000 in
theorem keep_fresh (t : Nat → Ent) (client : Nat) (x : Ent) (hc : client < 4) (h : (t client).seq < x.seq) (w : World) :
    Calls Try.prog 19 #[tabV t, .int .u8 (client : Int), .int .u32 (x.seq : Int), .agg #[.int .u8 (x.code : Int), .string x.text]] w fun e w' => e = .returned (tabV (fun i => if i = client then x else t i)) ∧ Below w.heap.size w w' := by
  match client, hc with
  | 0, _ =>
    go_enter Try.func19, Try.ntmps19
    unfold tabV tabC
    go_wp2_with fail
    refine (look_fresh t 0 x.seq (by omega) h _).mono ?_
    rintro e w' ⟨rfl, rfl⟩
    unfold lookW3 lookW2
    go_wp2_with fail
    refine bodyPost_ret (v := .agg #[.int .u32 (x.seq : Int), .int .u8 (x.code : Int), .string x.text, .int .u32 ((t 1).seq : Int), .int .u8 ((t 1).code : Int), .string (t 1).text, .int .u32 ((t 2).seq : Int), .int .u8 ((t 2).code : Int), .string (t 2).text, .int .u32 ((t 3).seq : Int), .int .u8 ((t 3).code : Int), .string (t 3).text]) (by simp [results, Try.results19, go_sem]) rfl ⟨rfl, ?_⟩
    repeat (first | exact Below.refl _ _ | refine Below.alloc ?_ (by simp <;> omega) _)
  | 1, _ =>
    go_enter Try.func19, Try.ntmps19
    unfold tabV tabC
    go_wp2_with fail
    refine (look_fresh t 1 x.seq (by omega) h _).mono ?_
    rintro e w' ⟨rfl, rfl⟩
    unfold lookW3 lookW2
    go_wp2_with fail
    refine bodyPost_ret (v := .agg #[.int .u32 ((t 0).seq : Int), .int .u8 ((t 0).code : Int), .string (t 0).text, .int .u32 (x.seq : Int), .int .u8 (x.code : Int), .string x.text, .int .u32 ((t 2).seq : Int), .int .u8 ((t 2).code : Int), .string (t 2).text, .int .u32 ((t 3).seq : Int), .int .u8 ((t 3).code : Int), .string (t 3).text]) (by simp [results, Try.results19, go_sem]) rfl ⟨rfl, ?_⟩
    repeat (first | exact Below.refl _ _ | refine Below.alloc ?_ (by simp <;> omega) _)
  | 2, _ =>
    go_enter Try.func19, Try.ntmps19
    unfold tabV tabC
    go_wp2_with fail
    refine (look_fresh t 2 x.seq (by omega) h _).mono ?_
    rintro e w' ⟨rfl, rfl⟩
    unfold lookW3 lookW2
    go_wp2_with fail
    refine bodyPost_ret (v := .agg #[.int .u32 ((t 0).seq : Int), .int .u8 ((t 0).code : Int), .string (t 0).text, .int .u32 ((t 1).seq : Int), .int .u8 ((t 1).code : Int), .string (t 1).text, .int .u32 (x.seq : Int), .int .u8 (x.code : Int), .string x.text, .int .u32 ((t 3).seq : Int), .int .u8 ((t 3).code : Int), .string (t 3).text]) (by simp [results, Try.results19, go_sem]) rfl ⟨rfl, ?_⟩
    repeat (first | exact Below.refl _ _ | refine Below.alloc ?_ (by simp <;> omega) _)
  | 3, _ =>
    go_enter Try.func19, Try.ntmps19
    unfold tabV tabC
    go_wp2_with fail
    refine (look_fresh t 3 x.seq (by omega) h _).mono ?_
    rintro e w' ⟨rfl, rfl⟩
    unfold lookW3 lookW2
    go_wp2_with fail
    refine bodyPost_ret (v := .agg #[.int .u32 ((t 0).seq : Int), .int .u8 ((t 0).code : Int), .string (t 0).text, .int .u32 ((t 1).seq : Int), .int .u8 ((t 1).code : Int), .string (t 1).text, .int .u32 ((t 2).seq : Int), .int .u8 ((t 2).code : Int), .string (t 2).text, .int .u32 (x.seq : Int), .int .u8 (x.code : Int), .string x.text]) (by simp [results, Try.results19, go_sem]) rfl ⟨rfl, ?_⟩
    repeat (first | exact Below.refl _ _ | refine Below.alloc ?_ (by simp <;> omega) _)

set_option maxHeartbeats 2000000 in
theorem keep_none (t : Nat → Ent) (client : Nat) (x : Ent) (h : 4 ≤ client ∨ x.seq = 0) (w : World) :
    Calls Try.prog 19 #[tabV t, .int .u8 (client : Int), .int .u32 (x.seq : Int), .agg #[.int .u8 (x.code : Int), .string x.text]] w fun e w' => e = .returned (tabV t) ∧ Below w.heap.size w w' := by
  go_enter Try.func19, Try.ntmps19
  unfold tabV tabC
  go_wp2_with fail
  refine (look_none t client x.seq h _).mono ?_
  rintro e w' ⟨rfl, rfl⟩
  unfold lookW2
  go_wp2_with fail
  refine bodyPost_ret (v := .agg #[.int .u32 ((t 0).seq : Int), .int .u8 ((t 0).code : Int), .string (t 0).text, .int .u32 ((t 1).seq : Int), .int .u8 ((t 1).code : Int), .string (t 1).text, .int .u32 ((t 2).seq : Int), .int .u8 ((t 2).code : Int), .string (t 2).text, .int .u32 ((t 3).seq : Int), .int .u8 ((t 3).code : Int), .string (t 3).text]) (by simp [results, Try.results19, go_sem]) rfl ⟨rfl, ?_⟩
  repeat (first | exact Below.refl _ _ | refine Below.alloc ?_ (by simp <;> omega) _)
set_option maxHeartbeats 2000000 in
theorem keep_again (t : Nat → Ent) (client : Nat) (x : Ent) (hc : client < 4) (h0 : (t client).seq ≠ 0) (hs : x.seq = (t client).seq) (w : World) :
    Calls Try.prog 19 #[tabV t, .int .u8 (client : Int), .int .u32 (x.seq : Int), .agg #[.int .u8 (x.code : Int), .string x.text]] w fun e w' => e = .returned (tabV t) ∧ Below w.heap.size w w' := by
  rw [hs]
  clear hs
  go_enter Try.func19, Try.ntmps19
  unfold tabV tabC
  go_wp2_with fail
  refine (look_again t client hc h0 _).mono ?_
  rintro e w' ⟨rfl, rfl⟩
  unfold lookW3 lookW2
  go_wp2_with fail
  refine bodyPost_ret (v := .agg #[.int .u32 ((t 0).seq : Int), .int .u8 ((t 0).code : Int), .string (t 0).text, .int .u32 ((t 1).seq : Int), .int .u8 ((t 1).code : Int), .string (t 1).text, .int .u32 ((t 2).seq : Int), .int .u8 ((t 2).code : Int), .string (t 2).text, .int .u32 ((t 3).seq : Int), .int .u8 ((t 3).code : Int), .string (t 3).text]) (by simp [results, Try.results19, go_sem]) rfl ⟨rfl, ?_⟩
  repeat (first | exact Below.refl _ _ | refine Below.alloc ?_ (by simp <;> omega) _)
set_option maxHeartbeats 2000000 in
theorem keep_old (t : Nat → Ent) (client : Nat) (x : Ent) (hc : client < 4) (h0 : x.seq ≠ 0) (h : x.seq < (t client).seq) (w : World) :
    Calls Try.prog 19 #[tabV t, .int .u8 (client : Int), .int .u32 (x.seq : Int), .agg #[.int .u8 (x.code : Int), .string x.text]] w fun e w' => e = .returned (tabV t) ∧ Below w.heap.size w w' := by
  go_enter Try.func19, Try.ntmps19
  unfold tabV tabC
  go_wp2_with fail
  refine (look_old t client x.seq hc h0 h _).mono ?_
  rintro e w' ⟨rfl, rfl⟩
  unfold lookW3 lookW2
  go_wp2_with fail
  refine bodyPost_ret (v := .agg #[.int .u32 ((t 0).seq : Int), .int .u8 ((t 0).code : Int), .string (t 0).text, .int .u32 ((t 1).seq : Int), .int .u8 ((t 1).code : Int), .string (t 1).text, .int .u32 ((t 2).seq : Int), .int .u8 ((t 2).code : Int), .string (t 2).text, .int .u32 ((t 3).seq : Int), .int .u8 ((t 3).code : Int), .string (t 3).text]) (by simp [results, Try.results19, go_sem]) rfl ⟨rfl, ?_⟩
  repeat (first | exact Below.refl _ _ | refine Below.alloc ?_ (by simp <;> omega) _)

theorem keep_any (t : Nat → Ent) (client : Nat) (x : Ent) (w : World) :
    Calls Try.prog 19 #[tabV t, .int .u8 (client : Int), .int .u32 (x.seq : Int), .agg #[.int .u8 (x.code : Int), .string x.text]] w fun e w' => e = .returned (tabV (keepT t client x)) ∧ Below w.heap.size w w' := by
  unfold keepT
  by_cases h : client < 4 ∧ (t client).seq < x.seq
  · rw [if_pos h]; exact keep_fresh t client x h.1 h.2 w
  rw [if_neg h]
  by_cases h1 : 4 ≤ client ∨ x.seq = 0
  · exact keep_none t client x h1 w
  by_cases h3 : x.seq = (t client).seq
  · exact keep_again t client x (by omega) (by omega) h3 w
  · exact keep_old t client x (by omega) (by omega) (by omega) w
end Go.Proofs.Ytgbnaifjdfoahaa.Sess
