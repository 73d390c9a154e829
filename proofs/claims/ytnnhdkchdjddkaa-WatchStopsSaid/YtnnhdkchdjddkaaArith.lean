/- arith: contracts with closed forms (overI timesI partI shiftI doI relI). Printed by wip/gen_arith.py. -/
import Derived.Test.YtnnhdkchdjddkaaRefTyp
import Derived.Laws.BitsLemmas
namespace Go.Proofs.Ytnnhdkchdjddkaa.C
open Go.RowKit
set_option linter.unusedSimpArgs false
set_option linter.unusedVariables false
def overI (t v : Int) : Int × Int := if t = 6 then (wrapT 6 v, 0) else if inT t v = true then (v, 0) else (0, 1)
def timesI (t a b : Int) : Int × Int := if t = 6 then (a * b % 4294967296, 0) else overI t (wrap64 (a * b))
def partI (k t a b : Int) : Int × Int := if b = 0 then (0, 2) else if t = 5 ∧ a = -2147483648 ∧ b = -1 then (0, 1) else if k = 11 then (wrap64 (a.tdiv b), 0) else (a.tmod b, 0)
def shiftI (k t a b : Int) : Int × Int := if b < 0 ∨ 32 ≤ b then (0, 3) else if k = 17 then (a / 2 ^ b.toNat, 0) else if t = 6 then (a * 2 ^ b.toNat % 4294967296, 0) else if a < 0 then (0, 1) else overI t (wrap64 (a * 2 ^ b.toNat))
def doI (k t a b : Int) : Int × Int :=
  if ¬ (t = 5 ∨ t = 6) ∨ inT t a = false ∨ (¬ (k = 16 ∨ k = 17) ∧ inT t b = false) then (0, 0)
  else if k = 6 then overI t (-a) else if k = 7 then (wrapT t (bits .xor .i64 (-1) a), 0) else if k = 8 then overI t (a + b) else if k = 9 then overI t (a - b) else if k = 10 then timesI t a b
  else if k = 11 ∨ k = 12 then partI k t a b else if k = 13 then (bits .and .i64 a b, 0) else if k = 14 then (bits .or .i64 a b, 0) else if k = 15 then (bits .xor .i64 a b, 0) else if k = 16 ∨ k = 17 then shiftI k t a b else (0, 0)
theorem inT5 {a : Int} : inT 5 a = true ↔ -2147483648 ≤ a ∧ a ≤ 2147483647 := by simp [inT, isT, minT, maxT]
theorem inT6 {a : Int} : inT 6 a = true ↔ 0 ≤ a ∧ a ≤ 4294967295 := by simp [inT, isT, minT, maxT]
theorem over_c (t v : Int) (w : World) : Calls Try.prog 49 #[.int .i64 t, .int .i64 v] w fun e w' => e = .returned (.tuple #[.int .i64 (overI t v).1, .int .i64 (overI t v).2]) ∧ w = w' := by
  by_cases h : t = 6
  · subst h
    have e0 : overI 6 v = (wrapT 6 v, 0) := by simp [overI]
    rw [e0]
    go_enter Try.func49, Try.ntmps49
    go_wp2_with (first | (go_at_call 23; refine (wrap_c _ _ _).mono ?_; rintro e w' ⟨rfl, rfl⟩) | (go_at_call 48; refine (in_c _ _ _).mono ?_; rintro e w' ⟨rfl, rfl⟩))
    exact bodyPost_ret (v := .tuple #[.int .i64 ((wrapT 6 v, (0 : Int))).1, .int .i64 ((wrapT 6 v, (0 : Int))).2]) (by simp [results, Try.results49, go_sem, *]) rfl ⟨rfl, rfl⟩
  · have h6 : (t == 6) = false := by simpa using h
    by_cases hi : inT t v = true
    · have e0 : overI t v = (v, 0) := by simp [overI, h, hi]
      rw [e0]
      go_enter Try.func49, Try.ntmps49
      go_wp2_with (first | (go_at_call 23; refine (wrap_c _ _ _).mono ?_; rintro e w' ⟨rfl, rfl⟩) | (go_at_call 48; refine (in_c _ _ _).mono ?_; rintro e w' ⟨rfl, rfl⟩))
      exact bodyPost_ret (v := .tuple #[.int .i64 ((v, (0 : Int))).1, .int .i64 ((v, (0 : Int))).2]) (by simp [results, Try.results49, go_sem, *]) rfl ⟨rfl, rfl⟩
    · have e0 : overI t v = (0, 1) := by simp [overI, h, hi]
      rw [Bool.not_eq_true] at hi
      rw [e0]
      go_enter Try.func49, Try.ntmps49
      go_wp2_with (first | (go_at_call 23; refine (wrap_c _ _ _).mono ?_; rintro e w' ⟨rfl, rfl⟩) | (go_at_call 48; refine (in_c _ _ _).mono ?_; rintro e w' ⟨rfl, rfl⟩))
      exact bodyPost_ret (v := .tuple #[.int .i64 (((0 : Int), (1 : Int))).1, .int .i64 (((0 : Int), (1 : Int))).2]) (by simp [results, Try.results49, go_sem, *]) rfl ⟨rfl, rfl⟩
theorem times6_c (a b : Int) (w : World) (h : 0 ≤ a) (h1 : a ≤ 4294967295) (k : 0 ≤ b) (k1 : b ≤ 4294967295) : Calls Try.prog 50 #[.int .i64 6, .int .i64 a, .int .i64 b] w fun e w' => e = .returned (.tuple #[.int .i64 (timesI 6 a b).1, .int .i64 (timesI 6 a b).2]) ∧ w = w' := by
  have e0 : timesI 6 a b = (a * b % 4294967296, 0) := by simp [timesI]
  rw [e0]
  go_enter Try.func50, Try.ntmps50
  go_wp2
  exact bodyPost_ret (v := .tuple #[.int .i64 ((a * b % 4294967296, (0 : Int))).1, .int .i64 ((a * b % 4294967296, (0 : Int))).2]) (by simp [results, Try.results50, go_sem, *]) rfl ⟨rfl, rfl⟩
theorem times5_c (a b : Int) (w : World) : Calls Try.prog 50 #[.int .i64 5, .int .i64 a, .int .i64 b] w fun e w' => e = .returned (.tuple #[.int .i64 (timesI 5 a b).1, .int .i64 (timesI 5 a b).2]) ∧ w = w' := by
  have e0 : timesI 5 a b = overI 5 (wrap64 (a * b)) := by simp [timesI]
  rw [e0]
  go_enter Try.func50, Try.ntmps50
  go_wp2_with ((go_at_call 49; refine (over_c _ _ _).mono ?_; rintro e w' ⟨rfl, rfl⟩))
  exact bodyPost_ret (v := .tuple #[.int .i64 (overI 5 (wrap64 (a * b))).1, .int .i64 (overI 5 (wrap64 (a * b))).2]) (by simp [results, Try.results50, go_sem, *]) rfl ⟨rfl, rfl⟩
theorem part115_c (a b : Int) (w : World) : Calls Try.prog 51 #[.int .i64 11, .int .i64 5, .int .i64 a, .int .i64 b] w fun e w' => e = .returned (.tuple #[.int .i64 (partI 11 5 a b).1, .int .i64 (partI 11 5 a b).2]) ∧ w = w' := by
  by_cases h : b = 0
  · subst h
    have e0 : partI 11 5 a 0 = (0, 2) := by simp [partI]
    rw [e0]
    go_enter Try.func51, Try.ntmps51
    go_wp2_with ((go_at_call 57; refine (min_c _ _).mono ?_; rintro e w' ⟨rfl, rfl⟩))
    exact bodyPost_ret (v := .tuple #[.int .i64 (((0 : Int), (2 : Int))).1, .int .i64 (((0 : Int), (2 : Int))).2]) (by simp [results, Try.results51, go_sem, *]) rfl ⟨rfl, rfl⟩
  have hb : (b == 0) = false := by simpa using h
  have em : minT 5 = -2147483648 := by decide
  by_cases ha : a = -2147483648
  · have ha2 : (a == -2147483648) = true := by simpa using ha
    by_cases hc : b = -1
    · subst hc
      have e0 : partI 11 5 a (-1) = (0, 1) := by simp [partI, ha]
      clear ha
      rw [e0]
      go_enter Try.func51, Try.ntmps51
      go_wp2_with ((go_at_call 57; refine (min_c _ _).mono ?_; rintro e w' ⟨rfl, rfl⟩))
      exact bodyPost_ret (v := .tuple #[.int .i64 (((0 : Int), (1 : Int))).1, .int .i64 (((0 : Int), (1 : Int))).2]) (by simp [results, Try.results51, go_sem, *]) rfl ⟨rfl, rfl⟩
    · have hd : (b == -1) = false := by simpa using hc
      have e0 : partI 11 5 a b = (wrap64 (a.tdiv b), 0) := by simp [partI, h, hc]
      clear ha
      rw [e0]
      go_enter Try.func51, Try.ntmps51
      go_wp2_with ((go_at_call 57; refine (min_c _ _).mono ?_; rintro e w' ⟨rfl, rfl⟩))
      exact bodyPost_ret (v := .tuple #[.int .i64 ((wrap64 (a.tdiv b), (0 : Int))).1, .int .i64 ((wrap64 (a.tdiv b), (0 : Int))).2]) (by simp [results, Try.results51, go_sem, *]) rfl ⟨rfl, rfl⟩
  · have hd : (a == -2147483648) = false := by simpa using ha
    have e0 : partI 11 5 a b = (wrap64 (a.tdiv b), 0) := by simp [partI, h, ha]
    rw [e0]
    go_enter Try.func51, Try.ntmps51
    go_wp2_with ((go_at_call 57; refine (min_c _ _).mono ?_; rintro e w' ⟨rfl, rfl⟩))
    exact bodyPost_ret (v := .tuple #[.int .i64 ((wrap64 (a.tdiv b), (0 : Int))).1, .int .i64 ((wrap64 (a.tdiv b), (0 : Int))).2]) (by simp [results, Try.results51, go_sem, *]) rfl ⟨rfl, rfl⟩
theorem part116_c (a b : Int) (w : World) : Calls Try.prog 51 #[.int .i64 11, .int .i64 6, .int .i64 a, .int .i64 b] w fun e w' => e = .returned (.tuple #[.int .i64 (partI 11 6 a b).1, .int .i64 (partI 11 6 a b).2]) ∧ w = w' := by
  by_cases h : b = 0
  · subst h
    have e0 : partI 11 6 a 0 = (0, 2) := by simp [partI]
    rw [e0]
    go_enter Try.func51, Try.ntmps51
    go_wp2_with ((go_at_call 57; refine (min_c _ _).mono ?_; rintro e w' ⟨rfl, rfl⟩))
    exact bodyPost_ret (v := .tuple #[.int .i64 (((0 : Int), (2 : Int))).1, .int .i64 (((0 : Int), (2 : Int))).2]) (by simp [results, Try.results51, go_sem, *]) rfl ⟨rfl, rfl⟩
  have hb : (b == 0) = false := by simpa using h
  · have e0 : partI 11 6 a b = (wrap64 (a.tdiv b), 0) := by simp [partI, h]
    rw [e0]
    go_enter Try.func51, Try.ntmps51
    go_wp2_with ((go_at_call 57; refine (min_c _ _).mono ?_; rintro e w' ⟨rfl, rfl⟩))
    exact bodyPost_ret (v := .tuple #[.int .i64 ((wrap64 (a.tdiv b), (0 : Int))).1, .int .i64 ((wrap64 (a.tdiv b), (0 : Int))).2]) (by simp [results, Try.results51, go_sem, *]) rfl ⟨rfl, rfl⟩
theorem part125_c (a b : Int) (w : World) : Calls Try.prog 51 #[.int .i64 12, .int .i64 5, .int .i64 a, .int .i64 b] w fun e w' => e = .returned (.tuple #[.int .i64 (partI 12 5 a b).1, .int .i64 (partI 12 5 a b).2]) ∧ w = w' := by
  by_cases h : b = 0
  · subst h
    have e0 : partI 12 5 a 0 = (0, 2) := by simp [partI]
    rw [e0]
    go_enter Try.func51, Try.ntmps51
    go_wp2_with ((go_at_call 57; refine (min_c _ _).mono ?_; rintro e w' ⟨rfl, rfl⟩))
    exact bodyPost_ret (v := .tuple #[.int .i64 (((0 : Int), (2 : Int))).1, .int .i64 (((0 : Int), (2 : Int))).2]) (by simp [results, Try.results51, go_sem, *]) rfl ⟨rfl, rfl⟩
  have hb : (b == 0) = false := by simpa using h
  have em : minT 5 = -2147483648 := by decide
  by_cases ha : a = -2147483648
  · have ha2 : (a == -2147483648) = true := by simpa using ha
    by_cases hc : b = -1
    · subst hc
      have e0 : partI 12 5 a (-1) = (0, 1) := by simp [partI, ha]
      clear ha
      rw [e0]
      go_enter Try.func51, Try.ntmps51
      go_wp2_with ((go_at_call 57; refine (min_c _ _).mono ?_; rintro e w' ⟨rfl, rfl⟩))
      exact bodyPost_ret (v := .tuple #[.int .i64 (((0 : Int), (1 : Int))).1, .int .i64 (((0 : Int), (1 : Int))).2]) (by simp [results, Try.results51, go_sem, *]) rfl ⟨rfl, rfl⟩
    · have hd : (b == -1) = false := by simpa using hc
      have e0 : partI 12 5 a b = (a.tmod b, 0) := by simp [partI, h, hc]
      clear ha
      rw [e0]
      go_enter Try.func51, Try.ntmps51
      go_wp2_with ((go_at_call 57; refine (min_c _ _).mono ?_; rintro e w' ⟨rfl, rfl⟩))
      exact bodyPost_ret (v := .tuple #[.int .i64 ((a.tmod b, (0 : Int))).1, .int .i64 ((a.tmod b, (0 : Int))).2]) (by simp [results, Try.results51, go_sem, *]) rfl ⟨rfl, rfl⟩
  · have hd : (a == -2147483648) = false := by simpa using ha
    have e0 : partI 12 5 a b = (a.tmod b, 0) := by simp [partI, h, ha]
    rw [e0]
    go_enter Try.func51, Try.ntmps51
    go_wp2_with ((go_at_call 57; refine (min_c _ _).mono ?_; rintro e w' ⟨rfl, rfl⟩))
    exact bodyPost_ret (v := .tuple #[.int .i64 ((a.tmod b, (0 : Int))).1, .int .i64 ((a.tmod b, (0 : Int))).2]) (by simp [results, Try.results51, go_sem, *]) rfl ⟨rfl, rfl⟩
theorem part126_c (a b : Int) (w : World) : Calls Try.prog 51 #[.int .i64 12, .int .i64 6, .int .i64 a, .int .i64 b] w fun e w' => e = .returned (.tuple #[.int .i64 (partI 12 6 a b).1, .int .i64 (partI 12 6 a b).2]) ∧ w = w' := by
  by_cases h : b = 0
  · subst h
    have e0 : partI 12 6 a 0 = (0, 2) := by simp [partI]
    rw [e0]
    go_enter Try.func51, Try.ntmps51
    go_wp2_with ((go_at_call 57; refine (min_c _ _).mono ?_; rintro e w' ⟨rfl, rfl⟩))
    exact bodyPost_ret (v := .tuple #[.int .i64 (((0 : Int), (2 : Int))).1, .int .i64 (((0 : Int), (2 : Int))).2]) (by simp [results, Try.results51, go_sem, *]) rfl ⟨rfl, rfl⟩
  have hb : (b == 0) = false := by simpa using h
  · have e0 : partI 12 6 a b = (a.tmod b, 0) := by simp [partI, h]
    rw [e0]
    go_enter Try.func51, Try.ntmps51
    go_wp2_with ((go_at_call 57; refine (min_c _ _).mono ?_; rintro e w' ⟨rfl, rfl⟩))
    exact bodyPost_ret (v := .tuple #[.int .i64 ((a.tmod b, (0 : Int))).1, .int .i64 ((a.tmod b, (0 : Int))).2]) (by simp [results, Try.results51, go_sem, *]) rfl ⟨rfl, rfl⟩
theorem shift165_c (a b : Int) (w : World) (h5 : -2147483648 ≤ a) (h6 : a ≤ 2147483647) : Calls Try.prog 52 #[.int .i64 16, .int .i64 5, .int .i64 a, .int .i64 b] w fun e w' => e = .returned (.tuple #[.int .i64 (shiftI 16 5 a b).1, .int .i64 (shiftI 16 5 a b).2]) ∧ w = w' := by
  by_cases h0 : b < 0
  · have e0 : shiftI 16 5 a b = (0, 3) := by simp [shiftI, h0]
    have hb : decide (b < 0) = true := decide_eq_true h0
    rw [e0]
    clear e0 h0
    go_enter Try.func52, Try.ntmps52
    go_wp2
    exact bodyPost_ret (v := .tuple #[.int .i64 (((0 : Int), (3 : Int))).1, .int .i64 (((0 : Int), (3 : Int))).2]) (by simp [results, Try.results52, go_sem, *]) rfl ⟨rfl, rfl⟩
  by_cases h1 : 32 ≤ b
  · have e0 : shiftI 16 5 a b = (0, 3) := by simp [shiftI, h1]
    have hb : decide (b < 0) = false := decide_eq_false h0
    have hc : decide (32 ≤ b) = true := decide_eq_true h1
    rw [e0]
    clear e0 h0 h1
    go_enter Try.func52, Try.ntmps52
    go_wp2
    exact bodyPost_ret (v := .tuple #[.int .i64 (((0 : Int), (3 : Int))).1, .int .i64 (((0 : Int), (3 : Int))).2]) (by simp [results, Try.results52, go_sem, *]) rfl ⟨rfl, rfl⟩
  have k0 : 0 ≤ b := by omega
  have k1 : b ≤ 31 := by omega
  have hb : decide (b < 0) = false := decide_eq_false h0
  have hc : decide (32 ≤ b) = false := decide_eq_false h1
  by_cases h2 : a < 0
  · have e0 : shiftI 16 5 a b = (0, 1) := by simp [shiftI, h0, h1, h2]
    have hd : decide (a < 0) = true := decide_eq_true h2
    rw [e0]
    clear e0 h0 h1
    go_enter Try.func52, Try.ntmps52
    go_wp2
    exact bodyPost_ret (v := .tuple #[.int .i64 (((0 : Int), (1 : Int))).1, .int .i64 (((0 : Int), (1 : Int))).2]) (by simp [results, Try.results52, go_sem, *]) rfl ⟨rfl, rfl⟩
  · have e0 : shiftI 16 5 a b = overI 5 (wrap64 (a * 2 ^ b.toNat)) := by simp [shiftI, h0, h1, h2]
    have hd : decide (a < 0) = false := decide_eq_false h2
    rw [e0]
    clear e0 h0 h1
    go_enter Try.func52, Try.ntmps52
    go_wp2_with ((go_at_call 49; refine (over_c _ _ _).mono ?_; rintro e w' ⟨rfl, rfl⟩))
    exact bodyPost_ret (v := .tuple #[.int .i64 (overI 5 (wrap64 (a * 2 ^ b.toNat))).1, .int .i64 (overI 5 (wrap64 (a * 2 ^ b.toNat))).2]) (by simp [results, Try.results52, go_sem, *]) rfl ⟨rfl, rfl⟩
theorem shift166_c (a b : Int) (w : World) (h5 : 0 ≤ a) (h6 : a ≤ 4294967295) : Calls Try.prog 52 #[.int .i64 16, .int .i64 6, .int .i64 a, .int .i64 b] w fun e w' => e = .returned (.tuple #[.int .i64 (shiftI 16 6 a b).1, .int .i64 (shiftI 16 6 a b).2]) ∧ w = w' := by
  by_cases h0 : b < 0
  · have e0 : shiftI 16 6 a b = (0, 3) := by simp [shiftI, h0]
    have hb : decide (b < 0) = true := decide_eq_true h0
    rw [e0]
    clear e0 h0
    go_enter Try.func52, Try.ntmps52
    go_wp2
    exact bodyPost_ret (v := .tuple #[.int .i64 (((0 : Int), (3 : Int))).1, .int .i64 (((0 : Int), (3 : Int))).2]) (by simp [results, Try.results52, go_sem, *]) rfl ⟨rfl, rfl⟩
  by_cases h1 : 32 ≤ b
  · have e0 : shiftI 16 6 a b = (0, 3) := by simp [shiftI, h1]
    have hb : decide (b < 0) = false := decide_eq_false h0
    have hc : decide (32 ≤ b) = true := decide_eq_true h1
    rw [e0]
    clear e0 h0 h1
    go_enter Try.func52, Try.ntmps52
    go_wp2
    exact bodyPost_ret (v := .tuple #[.int .i64 (((0 : Int), (3 : Int))).1, .int .i64 (((0 : Int), (3 : Int))).2]) (by simp [results, Try.results52, go_sem, *]) rfl ⟨rfl, rfl⟩
  have k0 : 0 ≤ b := by omega
  have k1 : b ≤ 31 := by omega
  have hb : decide (b < 0) = false := decide_eq_false h0
  have hc : decide (32 ≤ b) = false := decide_eq_false h1
  · have e0 : shiftI 16 6 a b = (a * 2 ^ b.toNat % 4294967296, 0) := by simp [shiftI, h0, h1]
    rw [e0]
    clear e0 h0 h1
    go_enter Try.func52, Try.ntmps52
    go_wp2
    exact bodyPost_ret (v := .tuple #[.int .i64 ((a * 2 ^ b.toNat % 4294967296, (0 : Int))).1, .int .i64 ((a * 2 ^ b.toNat % 4294967296, (0 : Int))).2]) (by simp [results, Try.results52, go_sem, *]) rfl ⟨rfl, rfl⟩
theorem shift175_c (a b : Int) (w : World) (h5 : -2147483648 ≤ a) (h6 : a ≤ 2147483647) : Calls Try.prog 52 #[.int .i64 17, .int .i64 5, .int .i64 a, .int .i64 b] w fun e w' => e = .returned (.tuple #[.int .i64 (shiftI 17 5 a b).1, .int .i64 (shiftI 17 5 a b).2]) ∧ w = w' := by
  by_cases h0 : b < 0
  · have e0 : shiftI 17 5 a b = (0, 3) := by simp [shiftI, h0]
    have hb : decide (b < 0) = true := decide_eq_true h0
    rw [e0]
    clear e0 h0
    go_enter Try.func52, Try.ntmps52
    go_wp2
    exact bodyPost_ret (v := .tuple #[.int .i64 (((0 : Int), (3 : Int))).1, .int .i64 (((0 : Int), (3 : Int))).2]) (by simp [results, Try.results52, go_sem, *]) rfl ⟨rfl, rfl⟩
  by_cases h1 : 32 ≤ b
  · have e0 : shiftI 17 5 a b = (0, 3) := by simp [shiftI, h1]
    have hb : decide (b < 0) = false := decide_eq_false h0
    have hc : decide (32 ≤ b) = true := decide_eq_true h1
    rw [e0]
    clear e0 h0 h1
    go_enter Try.func52, Try.ntmps52
    go_wp2
    exact bodyPost_ret (v := .tuple #[.int .i64 (((0 : Int), (3 : Int))).1, .int .i64 (((0 : Int), (3 : Int))).2]) (by simp [results, Try.results52, go_sem, *]) rfl ⟨rfl, rfl⟩
  have k0 : 0 ≤ b := by omega
  have k1 : b ≤ 31 := by omega
  have hb : decide (b < 0) = false := decide_eq_false h0
  have hc : decide (32 ≤ b) = false := decide_eq_false h1
  · have e0 : shiftI 17 5 a b = (a / 2 ^ b.toNat, 0) := by simp [shiftI, h0, h1]
    rw [e0]
    clear e0 h0 h1
    go_enter Try.func52, Try.ntmps52
    go_wp2
    exact bodyPost_ret (v := .tuple #[.int .i64 ((a / 2 ^ b.toNat, (0 : Int))).1, .int .i64 ((a / 2 ^ b.toNat, (0 : Int))).2]) (by simp [results, Try.results52, go_sem, *]) rfl ⟨rfl, rfl⟩
theorem shift176_c (a b : Int) (w : World) (h5 : 0 ≤ a) (h6 : a ≤ 4294967295) : Calls Try.prog 52 #[.int .i64 17, .int .i64 6, .int .i64 a, .int .i64 b] w fun e w' => e = .returned (.tuple #[.int .i64 (shiftI 17 6 a b).1, .int .i64 (shiftI 17 6 a b).2]) ∧ w = w' := by
  by_cases h0 : b < 0
  · have e0 : shiftI 17 6 a b = (0, 3) := by simp [shiftI, h0]
    have hb : decide (b < 0) = true := decide_eq_true h0
    rw [e0]
    clear e0 h0
    go_enter Try.func52, Try.ntmps52
    go_wp2
    exact bodyPost_ret (v := .tuple #[.int .i64 (((0 : Int), (3 : Int))).1, .int .i64 (((0 : Int), (3 : Int))).2]) (by simp [results, Try.results52, go_sem, *]) rfl ⟨rfl, rfl⟩
  by_cases h1 : 32 ≤ b
  · have e0 : shiftI 17 6 a b = (0, 3) := by simp [shiftI, h1]
    have hb : decide (b < 0) = false := decide_eq_false h0
    have hc : decide (32 ≤ b) = true := decide_eq_true h1
    rw [e0]
    clear e0 h0 h1
    go_enter Try.func52, Try.ntmps52
    go_wp2
    exact bodyPost_ret (v := .tuple #[.int .i64 (((0 : Int), (3 : Int))).1, .int .i64 (((0 : Int), (3 : Int))).2]) (by simp [results, Try.results52, go_sem, *]) rfl ⟨rfl, rfl⟩
  have k0 : 0 ≤ b := by omega
  have k1 : b ≤ 31 := by omega
  have hb : decide (b < 0) = false := decide_eq_false h0
  have hc : decide (32 ≤ b) = false := decide_eq_false h1
  · have e0 : shiftI 17 6 a b = (a / 2 ^ b.toNat, 0) := by simp [shiftI, h0, h1]
    rw [e0]
    clear e0 h0 h1
    go_enter Try.func52, Try.ntmps52
    go_wp2
    exact bodyPost_ret (v := .tuple #[.int .i64 ((a / 2 ^ b.toNat, (0 : Int))).1, .int .i64 ((a / 2 ^ b.toNat, (0 : Int))).2]) (by simp [results, Try.results52, go_sem, *]) rfl ⟨rfl, rfl⟩
theorem do65_c (a b : Int) (w : World) (ia : inT 5 a = true) (ib : inT 5 b = true) : Calls Try.prog 42 #[.int .i64 6, .int .i64 5, .int .i64 a, .int .i64 b] w fun e w' => e = .returned (.tuple #[.int .i64 (overI 5 (-a)).1, .int .i64 (overI 5 (-a)).2]) ∧ w = w' := by
  obtain ⟨a1, a2⟩ := inT5.mp ia
  obtain ⟨b1, b2⟩ := inT5.mp ib
  go_enter Try.func42, Try.ntmps42
  go_wp2_with (first | (go_at_call 48; refine (in_c _ _ _).mono ?_; rintro e w' ⟨rfl, rfl⟩) | (go_at_call 23; refine (wrap_c _ _ _).mono ?_; rintro e w' ⟨rfl, rfl⟩) | (go_at_call 49; refine (over_c _ _ _).mono ?_; rintro e w' ⟨rfl, rfl⟩))
  exact bodyPost_ret (v := .tuple #[.int .i64 (overI 5 (-a)).1, .int .i64 (overI 5 (-a)).2]) (by simp [results, Try.results42, go_sem, *]) rfl ⟨rfl, rfl⟩
theorem do75_c (a b : Int) (w : World) (ia : inT 5 a = true) (ib : inT 5 b = true) : Calls Try.prog 42 #[.int .i64 7, .int .i64 5, .int .i64 a, .int .i64 b] w fun e w' => e = .returned (.tuple #[.int .i64 ((wrapT 5 (bits .xor .i64 (-1) a), (0 : Int))).1, .int .i64 ((wrapT 5 (bits .xor .i64 (-1) a), (0 : Int))).2]) ∧ w = w' := by
  obtain ⟨a1, a2⟩ := inT5.mp ia
  obtain ⟨b1, b2⟩ := inT5.mp ib
  go_enter Try.func42, Try.ntmps42
  go_wp2_with (first | (go_at_call 48; refine (in_c _ _ _).mono ?_; rintro e w' ⟨rfl, rfl⟩) | (go_at_call 23; refine (wrap_c _ _ _).mono ?_; rintro e w' ⟨rfl, rfl⟩) | (go_at_call 49; refine (over_c _ _ _).mono ?_; rintro e w' ⟨rfl, rfl⟩))
  exact bodyPost_ret (v := .tuple #[.int .i64 ((wrapT 5 (bits .xor .i64 (-1) a), (0 : Int))).1, .int .i64 ((wrapT 5 (bits .xor .i64 (-1) a), (0 : Int))).2]) (by simp [results, Try.results42, go_sem, *]) rfl ⟨rfl, rfl⟩
theorem do85_c (a b : Int) (w : World) (ia : inT 5 a = true) (ib : inT 5 b = true) : Calls Try.prog 42 #[.int .i64 8, .int .i64 5, .int .i64 a, .int .i64 b] w fun e w' => e = .returned (.tuple #[.int .i64 (overI 5 (a + b)).1, .int .i64 (overI 5 (a + b)).2]) ∧ w = w' := by
  obtain ⟨a1, a2⟩ := inT5.mp ia
  obtain ⟨b1, b2⟩ := inT5.mp ib
  go_enter Try.func42, Try.ntmps42
  go_wp2_with (first | (go_at_call 48; refine (in_c _ _ _).mono ?_; rintro e w' ⟨rfl, rfl⟩) | (go_at_call 23; refine (wrap_c _ _ _).mono ?_; rintro e w' ⟨rfl, rfl⟩) | (go_at_call 49; refine (over_c _ _ _).mono ?_; rintro e w' ⟨rfl, rfl⟩))
  exact bodyPost_ret (v := .tuple #[.int .i64 (overI 5 (a + b)).1, .int .i64 (overI 5 (a + b)).2]) (by simp [results, Try.results42, go_sem, *]) rfl ⟨rfl, rfl⟩
theorem do95_c (a b : Int) (w : World) (ia : inT 5 a = true) (ib : inT 5 b = true) : Calls Try.prog 42 #[.int .i64 9, .int .i64 5, .int .i64 a, .int .i64 b] w fun e w' => e = .returned (.tuple #[.int .i64 (overI 5 (a - b)).1, .int .i64 (overI 5 (a - b)).2]) ∧ w = w' := by
  obtain ⟨a1, a2⟩ := inT5.mp ia
  obtain ⟨b1, b2⟩ := inT5.mp ib
  go_enter Try.func42, Try.ntmps42
  go_wp2_with (first | (go_at_call 48; refine (in_c _ _ _).mono ?_; rintro e w' ⟨rfl, rfl⟩) | (go_at_call 23; refine (wrap_c _ _ _).mono ?_; rintro e w' ⟨rfl, rfl⟩) | (go_at_call 49; refine (over_c _ _ _).mono ?_; rintro e w' ⟨rfl, rfl⟩))
  exact bodyPost_ret (v := .tuple #[.int .i64 (overI 5 (a - b)).1, .int .i64 (overI 5 (a - b)).2]) (by simp [results, Try.results42, go_sem, *]) rfl ⟨rfl, rfl⟩
theorem do105_c (a b : Int) (w : World) (ia : inT 5 a = true) (ib : inT 5 b = true) : Calls Try.prog 42 #[.int .i64 10, .int .i64 5, .int .i64 a, .int .i64 b] w fun e w' => e = .returned (.tuple #[.int .i64 (timesI 5 a b).1, .int .i64 (timesI 5 a b).2]) ∧ w = w' := by
  obtain ⟨a1, a2⟩ := inT5.mp ia
  obtain ⟨b1, b2⟩ := inT5.mp ib
  go_enter Try.func42, Try.ntmps42
  go_wp2_with (first | (go_at_call 48; refine (in_c _ _ _).mono ?_; rintro e w' ⟨rfl, rfl⟩) | (go_at_call 50; refine (times5_c _ _ _).mono ?_; rintro e w' ⟨rfl, rfl⟩) | (go_at_call 49; refine (over_c _ _ _).mono ?_; rintro e w' ⟨rfl, rfl⟩))
  exact bodyPost_ret (v := .tuple #[.int .i64 (timesI 5 a b).1, .int .i64 (timesI 5 a b).2]) (by simp [results, Try.results42, go_sem, *]) rfl ⟨rfl, rfl⟩
theorem do115_c (a b : Int) (w : World) (ia : inT 5 a = true) (ib : inT 5 b = true) : Calls Try.prog 42 #[.int .i64 11, .int .i64 5, .int .i64 a, .int .i64 b] w fun e w' => e = .returned (.tuple #[.int .i64 (partI 11 5 a b).1, .int .i64 (partI 11 5 a b).2]) ∧ w = w' := by
  obtain ⟨a1, a2⟩ := inT5.mp ia
  obtain ⟨b1, b2⟩ := inT5.mp ib
  go_enter Try.func42, Try.ntmps42
  go_wp2_with (first | (go_at_call 48; refine (in_c _ _ _).mono ?_; rintro e w' ⟨rfl, rfl⟩) | (go_at_call 51; refine (part115_c _ _ _).mono ?_; rintro e w' ⟨rfl, rfl⟩) | (go_at_call 49; refine (over_c _ _ _).mono ?_; rintro e w' ⟨rfl, rfl⟩))
  exact bodyPost_ret (v := .tuple #[.int .i64 (partI 11 5 a b).1, .int .i64 (partI 11 5 a b).2]) (by simp [results, Try.results42, go_sem, *]) rfl ⟨rfl, rfl⟩
theorem do125_c (a b : Int) (w : World) (ia : inT 5 a = true) (ib : inT 5 b = true) : Calls Try.prog 42 #[.int .i64 12, .int .i64 5, .int .i64 a, .int .i64 b] w fun e w' => e = .returned (.tuple #[.int .i64 (partI 12 5 a b).1, .int .i64 (partI 12 5 a b).2]) ∧ w = w' := by
  obtain ⟨a1, a2⟩ := inT5.mp ia
  obtain ⟨b1, b2⟩ := inT5.mp ib
  go_enter Try.func42, Try.ntmps42
  go_wp2_with (first | (go_at_call 48; refine (in_c _ _ _).mono ?_; rintro e w' ⟨rfl, rfl⟩) | (go_at_call 51; refine (part125_c _ _ _).mono ?_; rintro e w' ⟨rfl, rfl⟩) | (go_at_call 49; refine (over_c _ _ _).mono ?_; rintro e w' ⟨rfl, rfl⟩))
  exact bodyPost_ret (v := .tuple #[.int .i64 (partI 12 5 a b).1, .int .i64 (partI 12 5 a b).2]) (by simp [results, Try.results42, go_sem, *]) rfl ⟨rfl, rfl⟩
theorem do135_c (a b : Int) (w : World) (ia : inT 5 a = true) (ib : inT 5 b = true) : Calls Try.prog 42 #[.int .i64 13, .int .i64 5, .int .i64 a, .int .i64 b] w fun e w' => e = .returned (.tuple #[.int .i64 ((bits .and .i64 a b, (0 : Int))).1, .int .i64 ((bits .and .i64 a b, (0 : Int))).2]) ∧ w = w' := by
  obtain ⟨a1, a2⟩ := inT5.mp ia
  obtain ⟨b1, b2⟩ := inT5.mp ib
  go_enter Try.func42, Try.ntmps42
  go_wp2_with (first | (go_at_call 48; refine (in_c _ _ _).mono ?_; rintro e w' ⟨rfl, rfl⟩) | (go_at_call 23; refine (wrap_c _ _ _).mono ?_; rintro e w' ⟨rfl, rfl⟩) | (go_at_call 49; refine (over_c _ _ _).mono ?_; rintro e w' ⟨rfl, rfl⟩))
  exact bodyPost_ret (v := .tuple #[.int .i64 ((bits .and .i64 a b, (0 : Int))).1, .int .i64 ((bits .and .i64 a b, (0 : Int))).2]) (by simp [results, Try.results42, go_sem, *]) rfl ⟨rfl, rfl⟩
theorem do145_c (a b : Int) (w : World) (ia : inT 5 a = true) (ib : inT 5 b = true) : Calls Try.prog 42 #[.int .i64 14, .int .i64 5, .int .i64 a, .int .i64 b] w fun e w' => e = .returned (.tuple #[.int .i64 ((bits .or .i64 a b, (0 : Int))).1, .int .i64 ((bits .or .i64 a b, (0 : Int))).2]) ∧ w = w' := by
  obtain ⟨a1, a2⟩ := inT5.mp ia
  obtain ⟨b1, b2⟩ := inT5.mp ib
  go_enter Try.func42, Try.ntmps42
  go_wp2_with (first | (go_at_call 48; refine (in_c _ _ _).mono ?_; rintro e w' ⟨rfl, rfl⟩) | (go_at_call 23; refine (wrap_c _ _ _).mono ?_; rintro e w' ⟨rfl, rfl⟩) | (go_at_call 49; refine (over_c _ _ _).mono ?_; rintro e w' ⟨rfl, rfl⟩))
  exact bodyPost_ret (v := .tuple #[.int .i64 ((bits .or .i64 a b, (0 : Int))).1, .int .i64 ((bits .or .i64 a b, (0 : Int))).2]) (by simp [results, Try.results42, go_sem, *]) rfl ⟨rfl, rfl⟩
theorem do155_c (a b : Int) (w : World) (ia : inT 5 a = true) (ib : inT 5 b = true) : Calls Try.prog 42 #[.int .i64 15, .int .i64 5, .int .i64 a, .int .i64 b] w fun e w' => e = .returned (.tuple #[.int .i64 ((bits .xor .i64 a b, (0 : Int))).1, .int .i64 ((bits .xor .i64 a b, (0 : Int))).2]) ∧ w = w' := by
  obtain ⟨a1, a2⟩ := inT5.mp ia
  obtain ⟨b1, b2⟩ := inT5.mp ib
  go_enter Try.func42, Try.ntmps42
  go_wp2_with (first | (go_at_call 48; refine (in_c _ _ _).mono ?_; rintro e w' ⟨rfl, rfl⟩) | (go_at_call 23; refine (wrap_c _ _ _).mono ?_; rintro e w' ⟨rfl, rfl⟩) | (go_at_call 49; refine (over_c _ _ _).mono ?_; rintro e w' ⟨rfl, rfl⟩))
  exact bodyPost_ret (v := .tuple #[.int .i64 ((bits .xor .i64 a b, (0 : Int))).1, .int .i64 ((bits .xor .i64 a b, (0 : Int))).2]) (by simp [results, Try.results42, go_sem, *]) rfl ⟨rfl, rfl⟩
theorem do165_c (a b : Int) (w : World) (ia : inT 5 a = true) : Calls Try.prog 42 #[.int .i64 16, .int .i64 5, .int .i64 a, .int .i64 b] w fun e w' => e = .returned (.tuple #[.int .i64 (shiftI 16 5 a b).1, .int .i64 (shiftI 16 5 a b).2]) ∧ w = w' := by
  obtain ⟨a1, a2⟩ := inT5.mp ia
  go_enter Try.func42, Try.ntmps42
  go_wp2_with (first | (go_at_call 48; refine (in_c _ _ _).mono ?_; rintro e w' ⟨rfl, rfl⟩) | (go_at_call 52; refine (shift165_c _ _ _ (by assumption) (by assumption)).mono ?_; rintro e w' ⟨rfl, rfl⟩) | (go_at_call 49; refine (over_c _ _ _).mono ?_; rintro e w' ⟨rfl, rfl⟩))
  exact bodyPost_ret (v := .tuple #[.int .i64 (shiftI 16 5 a b).1, .int .i64 (shiftI 16 5 a b).2]) (by simp [results, Try.results42, go_sem, *]) rfl ⟨rfl, rfl⟩
theorem do175_c (a b : Int) (w : World) (ia : inT 5 a = true) : Calls Try.prog 42 #[.int .i64 17, .int .i64 5, .int .i64 a, .int .i64 b] w fun e w' => e = .returned (.tuple #[.int .i64 (shiftI 17 5 a b).1, .int .i64 (shiftI 17 5 a b).2]) ∧ w = w' := by
  obtain ⟨a1, a2⟩ := inT5.mp ia
  go_enter Try.func42, Try.ntmps42
  go_wp2_with (first | (go_at_call 48; refine (in_c _ _ _).mono ?_; rintro e w' ⟨rfl, rfl⟩) | (go_at_call 52; refine (shift175_c _ _ _ (by assumption) (by assumption)).mono ?_; rintro e w' ⟨rfl, rfl⟩) | (go_at_call 49; refine (over_c _ _ _).mono ?_; rintro e w' ⟨rfl, rfl⟩))
  exact bodyPost_ret (v := .tuple #[.int .i64 (shiftI 17 5 a b).1, .int .i64 (shiftI 17 5 a b).2]) (by simp [results, Try.results42, go_sem, *]) rfl ⟨rfl, rfl⟩
theorem do66_c (a b : Int) (w : World) (ia : inT 6 a = true) (ib : inT 6 b = true) : Calls Try.prog 42 #[.int .i64 6, .int .i64 6, .int .i64 a, .int .i64 b] w fun e w' => e = .returned (.tuple #[.int .i64 (overI 6 (-a)).1, .int .i64 (overI 6 (-a)).2]) ∧ w = w' := by
  obtain ⟨a1, a2⟩ := inT6.mp ia
  obtain ⟨b1, b2⟩ := inT6.mp ib
  go_enter Try.func42, Try.ntmps42
  go_wp2_with (first | (go_at_call 48; refine (in_c _ _ _).mono ?_; rintro e w' ⟨rfl, rfl⟩) | (go_at_call 23; refine (wrap_c _ _ _).mono ?_; rintro e w' ⟨rfl, rfl⟩) | (go_at_call 49; refine (over_c _ _ _).mono ?_; rintro e w' ⟨rfl, rfl⟩))
  exact bodyPost_ret (v := .tuple #[.int .i64 (overI 6 (-a)).1, .int .i64 (overI 6 (-a)).2]) (by simp [results, Try.results42, go_sem, *]) rfl ⟨rfl, rfl⟩
theorem do76_c (a b : Int) (w : World) (ia : inT 6 a = true) (ib : inT 6 b = true) : Calls Try.prog 42 #[.int .i64 7, .int .i64 6, .int .i64 a, .int .i64 b] w fun e w' => e = .returned (.tuple #[.int .i64 ((wrapT 6 (bits .xor .i64 (-1) a), (0 : Int))).1, .int .i64 ((wrapT 6 (bits .xor .i64 (-1) a), (0 : Int))).2]) ∧ w = w' := by
  obtain ⟨a1, a2⟩ := inT6.mp ia
  obtain ⟨b1, b2⟩ := inT6.mp ib
  go_enter Try.func42, Try.ntmps42
  go_wp2_with (first | (go_at_call 48; refine (in_c _ _ _).mono ?_; rintro e w' ⟨rfl, rfl⟩) | (go_at_call 23; refine (wrap_c _ _ _).mono ?_; rintro e w' ⟨rfl, rfl⟩) | (go_at_call 49; refine (over_c _ _ _).mono ?_; rintro e w' ⟨rfl, rfl⟩))
  exact bodyPost_ret (v := .tuple #[.int .i64 ((wrapT 6 (bits .xor .i64 (-1) a), (0 : Int))).1, .int .i64 ((wrapT 6 (bits .xor .i64 (-1) a), (0 : Int))).2]) (by simp [results, Try.results42, go_sem, *]) rfl ⟨rfl, rfl⟩
theorem do86_c (a b : Int) (w : World) (ia : inT 6 a = true) (ib : inT 6 b = true) : Calls Try.prog 42 #[.int .i64 8, .int .i64 6, .int .i64 a, .int .i64 b] w fun e w' => e = .returned (.tuple #[.int .i64 (overI 6 (a + b)).1, .int .i64 (overI 6 (a + b)).2]) ∧ w = w' := by
  obtain ⟨a1, a2⟩ := inT6.mp ia
  obtain ⟨b1, b2⟩ := inT6.mp ib
  go_enter Try.func42, Try.ntmps42
  go_wp2_with (first | (go_at_call 48; refine (in_c _ _ _).mono ?_; rintro e w' ⟨rfl, rfl⟩) | (go_at_call 23; refine (wrap_c _ _ _).mono ?_; rintro e w' ⟨rfl, rfl⟩) | (go_at_call 49; refine (over_c _ _ _).mono ?_; rintro e w' ⟨rfl, rfl⟩))
  exact bodyPost_ret (v := .tuple #[.int .i64 (overI 6 (a + b)).1, .int .i64 (overI 6 (a + b)).2]) (by simp [results, Try.results42, go_sem, *]) rfl ⟨rfl, rfl⟩
theorem do96_c (a b : Int) (w : World) (ia : inT 6 a = true) (ib : inT 6 b = true) : Calls Try.prog 42 #[.int .i64 9, .int .i64 6, .int .i64 a, .int .i64 b] w fun e w' => e = .returned (.tuple #[.int .i64 (overI 6 (a - b)).1, .int .i64 (overI 6 (a - b)).2]) ∧ w = w' := by
  obtain ⟨a1, a2⟩ := inT6.mp ia
  obtain ⟨b1, b2⟩ := inT6.mp ib
  go_enter Try.func42, Try.ntmps42
  go_wp2_with (first | (go_at_call 48; refine (in_c _ _ _).mono ?_; rintro e w' ⟨rfl, rfl⟩) | (go_at_call 23; refine (wrap_c _ _ _).mono ?_; rintro e w' ⟨rfl, rfl⟩) | (go_at_call 49; refine (over_c _ _ _).mono ?_; rintro e w' ⟨rfl, rfl⟩))
  exact bodyPost_ret (v := .tuple #[.int .i64 (overI 6 (a - b)).1, .int .i64 (overI 6 (a - b)).2]) (by simp [results, Try.results42, go_sem, *]) rfl ⟨rfl, rfl⟩
theorem do106_c (a b : Int) (w : World) (ia : inT 6 a = true) (ib : inT 6 b = true) : Calls Try.prog 42 #[.int .i64 10, .int .i64 6, .int .i64 a, .int .i64 b] w fun e w' => e = .returned (.tuple #[.int .i64 (timesI 6 a b).1, .int .i64 (timesI 6 a b).2]) ∧ w = w' := by
  obtain ⟨a1, a2⟩ := inT6.mp ia
  obtain ⟨b1, b2⟩ := inT6.mp ib
  go_enter Try.func42, Try.ntmps42
  go_wp2_with (first | (go_at_call 48; refine (in_c _ _ _).mono ?_; rintro e w' ⟨rfl, rfl⟩) | (go_at_call 50; refine (times6_c _ _ _ (by assumption) (by assumption) (by assumption) (by assumption)).mono ?_; rintro e w' ⟨rfl, rfl⟩) | (go_at_call 49; refine (over_c _ _ _).mono ?_; rintro e w' ⟨rfl, rfl⟩))
  exact bodyPost_ret (v := .tuple #[.int .i64 (timesI 6 a b).1, .int .i64 (timesI 6 a b).2]) (by simp [results, Try.results42, go_sem, *]) rfl ⟨rfl, rfl⟩
theorem do116_c (a b : Int) (w : World) (ia : inT 6 a = true) (ib : inT 6 b = true) : Calls Try.prog 42 #[.int .i64 11, .int .i64 6, .int .i64 a, .int .i64 b] w fun e w' => e = .returned (.tuple #[.int .i64 (partI 11 6 a b).1, .int .i64 (partI 11 6 a b).2]) ∧ w = w' := by
  obtain ⟨a1, a2⟩ := inT6.mp ia
  obtain ⟨b1, b2⟩ := inT6.mp ib
  go_enter Try.func42, Try.ntmps42
  go_wp2_with (first | (go_at_call 48; refine (in_c _ _ _).mono ?_; rintro e w' ⟨rfl, rfl⟩) | (go_at_call 51; refine (part116_c _ _ _).mono ?_; rintro e w' ⟨rfl, rfl⟩) | (go_at_call 49; refine (over_c _ _ _).mono ?_; rintro e w' ⟨rfl, rfl⟩))
  exact bodyPost_ret (v := .tuple #[.int .i64 (partI 11 6 a b).1, .int .i64 (partI 11 6 a b).2]) (by simp [results, Try.results42, go_sem, *]) rfl ⟨rfl, rfl⟩
theorem do126_c (a b : Int) (w : World) (ia : inT 6 a = true) (ib : inT 6 b = true) : Calls Try.prog 42 #[.int .i64 12, .int .i64 6, .int .i64 a, .int .i64 b] w fun e w' => e = .returned (.tuple #[.int .i64 (partI 12 6 a b).1, .int .i64 (partI 12 6 a b).2]) ∧ w = w' := by
  obtain ⟨a1, a2⟩ := inT6.mp ia
  obtain ⟨b1, b2⟩ := inT6.mp ib
  go_enter Try.func42, Try.ntmps42
  go_wp2_with (first | (go_at_call 48; refine (in_c _ _ _).mono ?_; rintro e w' ⟨rfl, rfl⟩) | (go_at_call 51; refine (part126_c _ _ _).mono ?_; rintro e w' ⟨rfl, rfl⟩) | (go_at_call 49; refine (over_c _ _ _).mono ?_; rintro e w' ⟨rfl, rfl⟩))
  exact bodyPost_ret (v := .tuple #[.int .i64 (partI 12 6 a b).1, .int .i64 (partI 12 6 a b).2]) (by simp [results, Try.results42, go_sem, *]) rfl ⟨rfl, rfl⟩
theorem do136_c (a b : Int) (w : World) (ia : inT 6 a = true) (ib : inT 6 b = true) : Calls Try.prog 42 #[.int .i64 13, .int .i64 6, .int .i64 a, .int .i64 b] w fun e w' => e = .returned (.tuple #[.int .i64 ((bits .and .i64 a b, (0 : Int))).1, .int .i64 ((bits .and .i64 a b, (0 : Int))).2]) ∧ w = w' := by
  obtain ⟨a1, a2⟩ := inT6.mp ia
  obtain ⟨b1, b2⟩ := inT6.mp ib
  go_enter Try.func42, Try.ntmps42
  go_wp2_with (first | (go_at_call 48; refine (in_c _ _ _).mono ?_; rintro e w' ⟨rfl, rfl⟩) | (go_at_call 23; refine (wrap_c _ _ _).mono ?_; rintro e w' ⟨rfl, rfl⟩) | (go_at_call 49; refine (over_c _ _ _).mono ?_; rintro e w' ⟨rfl, rfl⟩))
  exact bodyPost_ret (v := .tuple #[.int .i64 ((bits .and .i64 a b, (0 : Int))).1, .int .i64 ((bits .and .i64 a b, (0 : Int))).2]) (by simp [results, Try.results42, go_sem, *]) rfl ⟨rfl, rfl⟩
theorem do146_c (a b : Int) (w : World) (ia : inT 6 a = true) (ib : inT 6 b = true) : Calls Try.prog 42 #[.int .i64 14, .int .i64 6, .int .i64 a, .int .i64 b] w fun e w' => e = .returned (.tuple #[.int .i64 ((bits .or .i64 a b, (0 : Int))).1, .int .i64 ((bits .or .i64 a b, (0 : Int))).2]) ∧ w = w' := by
  obtain ⟨a1, a2⟩ := inT6.mp ia
  obtain ⟨b1, b2⟩ := inT6.mp ib
  go_enter Try.func42, Try.ntmps42
  go_wp2_with (first | (go_at_call 48; refine (in_c _ _ _).mono ?_; rintro e w' ⟨rfl, rfl⟩) | (go_at_call 23; refine (wrap_c _ _ _).mono ?_; rintro e w' ⟨rfl, rfl⟩) | (go_at_call 49; refine (over_c _ _ _).mono ?_; rintro e w' ⟨rfl, rfl⟩))
  exact bodyPost_ret (v := .tuple #[.int .i64 ((bits .or .i64 a b, (0 : Int))).1, .int .i64 ((bits .or .i64 a b, (0 : Int))).2]) (by simp [results, Try.results42, go_sem, *]) rfl ⟨rfl, rfl⟩
theorem do156_c (a b : Int) (w : World) (ia : inT 6 a = true) (ib : inT 6 b = true) : Calls Try.prog 42 #[.int .i64 15, .int .i64 6, .int .i64 a, .int .i64 b] w fun e w' => e = .returned (.tuple #[.int .i64 ((bits .xor .i64 a b, (0 : Int))).1, .int .i64 ((bits .xor .i64 a b, (0 : Int))).2]) ∧ w = w' := by
  obtain ⟨a1, a2⟩ := inT6.mp ia
  obtain ⟨b1, b2⟩ := inT6.mp ib
  go_enter Try.func42, Try.ntmps42
  go_wp2_with (first | (go_at_call 48; refine (in_c _ _ _).mono ?_; rintro e w' ⟨rfl, rfl⟩) | (go_at_call 23; refine (wrap_c _ _ _).mono ?_; rintro e w' ⟨rfl, rfl⟩) | (go_at_call 49; refine (over_c _ _ _).mono ?_; rintro e w' ⟨rfl, rfl⟩))
  exact bodyPost_ret (v := .tuple #[.int .i64 ((bits .xor .i64 a b, (0 : Int))).1, .int .i64 ((bits .xor .i64 a b, (0 : Int))).2]) (by simp [results, Try.results42, go_sem, *]) rfl ⟨rfl, rfl⟩
theorem do166_c (a b : Int) (w : World) (ia : inT 6 a = true) : Calls Try.prog 42 #[.int .i64 16, .int .i64 6, .int .i64 a, .int .i64 b] w fun e w' => e = .returned (.tuple #[.int .i64 (shiftI 16 6 a b).1, .int .i64 (shiftI 16 6 a b).2]) ∧ w = w' := by
  obtain ⟨a1, a2⟩ := inT6.mp ia
  go_enter Try.func42, Try.ntmps42
  go_wp2_with (first | (go_at_call 48; refine (in_c _ _ _).mono ?_; rintro e w' ⟨rfl, rfl⟩) | (go_at_call 52; refine (shift166_c _ _ _ (by assumption) (by assumption)).mono ?_; rintro e w' ⟨rfl, rfl⟩) | (go_at_call 49; refine (over_c _ _ _).mono ?_; rintro e w' ⟨rfl, rfl⟩))
  exact bodyPost_ret (v := .tuple #[.int .i64 (shiftI 16 6 a b).1, .int .i64 (shiftI 16 6 a b).2]) (by simp [results, Try.results42, go_sem, *]) rfl ⟨rfl, rfl⟩
theorem do176_c (a b : Int) (w : World) (ia : inT 6 a = true) : Calls Try.prog 42 #[.int .i64 17, .int .i64 6, .int .i64 a, .int .i64 b] w fun e w' => e = .returned (.tuple #[.int .i64 (shiftI 17 6 a b).1, .int .i64 (shiftI 17 6 a b).2]) ∧ w = w' := by
  obtain ⟨a1, a2⟩ := inT6.mp ia
  go_enter Try.func42, Try.ntmps42
  go_wp2_with (first | (go_at_call 48; refine (in_c _ _ _).mono ?_; rintro e w' ⟨rfl, rfl⟩) | (go_at_call 52; refine (shift176_c _ _ _ (by assumption) (by assumption)).mono ?_; rintro e w' ⟨rfl, rfl⟩) | (go_at_call 49; refine (over_c _ _ _).mono ?_; rintro e w' ⟨rfl, rfl⟩))
  exact bodyPost_ret (v := .tuple #[.int .i64 (shiftI 17 6 a b).1, .int .i64 (shiftI 17 6 a b).2]) (by simp [results, Try.results42, go_sem, *]) rfl ⟨rfl, rfl⟩
theorem doZ_c (k t a b : Int) (w : World) (h5 : (t == 5) = false) (h6 : (t == 6) = false) (h7 : (t != 5) = true) (h8 : (t != 6) = true) (h9 : ¬ t = 5) (h10 : ¬ t = 6) : Calls Try.prog 42 #[.int .i64 k, .int .i64 t, .int .i64 a, .int .i64 b] w fun e w' => e = .returned (.tuple #[.int .i64 (((0 : Int), (0 : Int))).1, .int .i64 (((0 : Int), (0 : Int))).2]) ∧ w = w' := by
  by_cases k16 : k = 16
  · subst k16
    go_enter Try.func42, Try.ntmps42
    go_wp2
    exact bodyPost_ret (v := .tuple #[.int .i64 (((0 : Int), (0 : Int))).1, .int .i64 (((0 : Int), (0 : Int))).2]) (by simp [results, Try.results42, go_sem, *]) rfl ⟨rfl, rfl⟩
  · have k16 : (k == 16) = false := by simpa using k16
    go_enter Try.func42, Try.ntmps42
    go_wp2
    exact bodyPost_ret (v := .tuple #[.int .i64 (((0 : Int), (0 : Int))).1, .int .i64 (((0 : Int), (0 : Int))).2]) (by simp [results, Try.results42, go_sem, *]) rfl ⟨rfl, rfl⟩
theorem doA5_c (k a b : Int) (w : World) (ia : inT 5 a = false) : Calls Try.prog 42 #[.int .i64 k, .int .i64 5, .int .i64 a, .int .i64 b] w fun e w' => e = .returned (.tuple #[.int .i64 (((0 : Int), (0 : Int))).1, .int .i64 (((0 : Int), (0 : Int))).2]) ∧ w = w' := by
  by_cases k16 : k = 16
  · subst k16
    go_enter Try.func42, Try.ntmps42
    go_wp2_with ((go_at_call 48; refine (in_c _ _ _).mono ?_; rintro e w' ⟨rfl, rfl⟩))
    exact bodyPost_ret (v := .tuple #[.int .i64 (((0 : Int), (0 : Int))).1, .int .i64 (((0 : Int), (0 : Int))).2]) (by simp [results, Try.results42, go_sem, *]) rfl ⟨rfl, rfl⟩
  · have k16 : (k == 16) = false := by simpa using k16
    go_enter Try.func42, Try.ntmps42
    go_wp2_with ((go_at_call 48; refine (in_c _ _ _).mono ?_; rintro e w' ⟨rfl, rfl⟩))
    exact bodyPost_ret (v := .tuple #[.int .i64 (((0 : Int), (0 : Int))).1, .int .i64 (((0 : Int), (0 : Int))).2]) (by simp [results, Try.results42, go_sem, *]) rfl ⟨rfl, rfl⟩
theorem doB5_c (k a b : Int) (w : World) (h16 : (k == 16) = false) (h17 : (k == 17) = false) (ia : inT 5 a = true) (ib : inT 5 b = false) : Calls Try.prog 42 #[.int .i64 k, .int .i64 5, .int .i64 a, .int .i64 b] w fun e w' => e = .returned (.tuple #[.int .i64 (((0 : Int), (0 : Int))).1, .int .i64 (((0 : Int), (0 : Int))).2]) ∧ w = w' := by
  go_enter Try.func42, Try.ntmps42
  go_wp2_with ((go_at_call 48; refine (in_c _ _ _).mono ?_; rintro e w' ⟨rfl, rfl⟩))
  exact bodyPost_ret (v := .tuple #[.int .i64 (((0 : Int), (0 : Int))).1, .int .i64 (((0 : Int), (0 : Int))).2]) (by simp [results, Try.results42, go_sem, *]) rfl ⟨rfl, rfl⟩
theorem doN5_c (k a b : Int) (w : World) (h6 : (k == 6) = false) (h7 : (k == 7) = false) (h8 : (k == 8) = false) (h9 : (k == 9) = false) (h10 : (k == 10) = false) (h11 : (k == 11) = false) (h12 : (k == 12) = false) (h13 : (k == 13) = false) (h14 : (k == 14) = false) (h15 : (k == 15) = false) (h16 : (k == 16) = false) (h17 : (k == 17) = false) (ia : inT 5 a = true) (ib : inT 5 b = true) : Calls Try.prog 42 #[.int .i64 k, .int .i64 5, .int .i64 a, .int .i64 b] w fun e w' => e = .returned (.tuple #[.int .i64 (((0 : Int), (0 : Int))).1, .int .i64 (((0 : Int), (0 : Int))).2]) ∧ w = w' := by
  go_enter Try.func42, Try.ntmps42
  go_wp2_with ((go_at_call 48; refine (in_c _ _ _).mono ?_; rintro e w' ⟨rfl, rfl⟩))
  exact bodyPost_ret (v := .tuple #[.int .i64 (((0 : Int), (0 : Int))).1, .int .i64 (((0 : Int), (0 : Int))).2]) (by simp [results, Try.results42, go_sem, *]) rfl ⟨rfl, rfl⟩
theorem doA6_c (k a b : Int) (w : World) (ia : inT 6 a = false) : Calls Try.prog 42 #[.int .i64 k, .int .i64 6, .int .i64 a, .int .i64 b] w fun e w' => e = .returned (.tuple #[.int .i64 (((0 : Int), (0 : Int))).1, .int .i64 (((0 : Int), (0 : Int))).2]) ∧ w = w' := by
  by_cases k16 : k = 16
  · subst k16
    go_enter Try.func42, Try.ntmps42
    go_wp2_with ((go_at_call 48; refine (in_c _ _ _).mono ?_; rintro e w' ⟨rfl, rfl⟩))
    exact bodyPost_ret (v := .tuple #[.int .i64 (((0 : Int), (0 : Int))).1, .int .i64 (((0 : Int), (0 : Int))).2]) (by simp [results, Try.results42, go_sem, *]) rfl ⟨rfl, rfl⟩
  · have k16 : (k == 16) = false := by simpa using k16
    go_enter Try.func42, Try.ntmps42
    go_wp2_with ((go_at_call 48; refine (in_c _ _ _).mono ?_; rintro e w' ⟨rfl, rfl⟩))
    exact bodyPost_ret (v := .tuple #[.int .i64 (((0 : Int), (0 : Int))).1, .int .i64 (((0 : Int), (0 : Int))).2]) (by simp [results, Try.results42, go_sem, *]) rfl ⟨rfl, rfl⟩
theorem doB6_c (k a b : Int) (w : World) (h16 : (k == 16) = false) (h17 : (k == 17) = false) (ia : inT 6 a = true) (ib : inT 6 b = false) : Calls Try.prog 42 #[.int .i64 k, .int .i64 6, .int .i64 a, .int .i64 b] w fun e w' => e = .returned (.tuple #[.int .i64 (((0 : Int), (0 : Int))).1, .int .i64 (((0 : Int), (0 : Int))).2]) ∧ w = w' := by
  go_enter Try.func42, Try.ntmps42
  go_wp2_with ((go_at_call 48; refine (in_c _ _ _).mono ?_; rintro e w' ⟨rfl, rfl⟩))
  exact bodyPost_ret (v := .tuple #[.int .i64 (((0 : Int), (0 : Int))).1, .int .i64 (((0 : Int), (0 : Int))).2]) (by simp [results, Try.results42, go_sem, *]) rfl ⟨rfl, rfl⟩
theorem doN6_c (k a b : Int) (w : World) (h6 : (k == 6) = false) (h7 : (k == 7) = false) (h8 : (k == 8) = false) (h9 : (k == 9) = false) (h10 : (k == 10) = false) (h11 : (k == 11) = false) (h12 : (k == 12) = false) (h13 : (k == 13) = false) (h14 : (k == 14) = false) (h15 : (k == 15) = false) (h16 : (k == 16) = false) (h17 : (k == 17) = false) (ia : inT 6 a = true) (ib : inT 6 b = true) : Calls Try.prog 42 #[.int .i64 k, .int .i64 6, .int .i64 a, .int .i64 b] w fun e w' => e = .returned (.tuple #[.int .i64 (((0 : Int), (0 : Int))).1, .int .i64 (((0 : Int), (0 : Int))).2]) ∧ w = w' := by
  go_enter Try.func42, Try.ntmps42
  go_wp2_with ((go_at_call 48; refine (in_c _ _ _).mono ?_; rintro e w' ⟨rfl, rfl⟩))
  exact bodyPost_ret (v := .tuple #[.int .i64 (((0 : Int), (0 : Int))).1, .int .i64 (((0 : Int), (0 : Int))).2]) (by simp [results, Try.results42, go_sem, *]) rfl ⟨rfl, rfl⟩
theorem do_c (k t a b : Int) (w : World) : Calls Try.prog 42 #[.int .i64 k, .int .i64 t, .int .i64 a, .int .i64 b] w fun e w' => e = .returned (.tuple #[.int .i64 (doI k t a b).1, .int .i64 (doI k t a b).2]) ∧ w = w' := by
  by_cases h5 : t = 5 ∨ t = 6
  rotate_left
  · rw [show doI k t a b = (0, 0) from by simp [doI, h5]]
    exact doZ_c k t a b w (by simp; omega) (by simp; omega) (by simp; omega) (by simp; omega) (by omega) (by omega)
  rcases h5 with rfl | rfl
  · by_cases ia : inT 5 a = true
    rotate_left
    · rw [Bool.not_eq_true] at ia
      rw [show doI k 5 a b = (0, 0) from by simp [doI, ia]]
      exact doA5_c k a b w ia
    by_cases k16 : k = 16
    · subst k16
      rw [show doI 16 5 a b = shiftI 16 5 a b from by simp [doI, ia]]
      exact do165_c a b w ia
    by_cases k17 : k = 17
    · subst k17
      rw [show doI 17 5 a b = shiftI 17 5 a b from by simp [doI, ia]]
      exact do175_c a b w ia
    by_cases ib : inT 5 b = true
    rotate_left
    · rw [Bool.not_eq_true] at ib
      rw [show doI k 5 a b = (0, 0) from by simp [doI, ia, ib, k16, k17]]
      exact doB5_c k a b w (by simpa using k16) (by simpa using k17) ia ib
    by_cases k6 : k = 6
    · subst k6
      rw [show doI 6 5 a b = overI 5 (-a) from by simp [doI, ia, ib]]
      exact do65_c a b w ia ib
    by_cases k7 : k = 7
    · subst k7
      rw [show doI 7 5 a b = (wrapT 5 (bits .xor .i64 (-1) a), (0 : Int)) from by simp [doI, ia, ib]]
      exact do75_c a b w ia ib
    by_cases k8 : k = 8
    · subst k8
      rw [show doI 8 5 a b = overI 5 (a + b) from by simp [doI, ia, ib]]
      exact do85_c a b w ia ib
    by_cases k9 : k = 9
    · subst k9
      rw [show doI 9 5 a b = overI 5 (a - b) from by simp [doI, ia, ib]]
      exact do95_c a b w ia ib
    by_cases k10 : k = 10
    · subst k10
      rw [show doI 10 5 a b = timesI 5 a b from by simp [doI, ia, ib]]
      exact do105_c a b w ia ib
    by_cases k11 : k = 11
    · subst k11
      rw [show doI 11 5 a b = partI 11 5 a b from by simp [doI, ia, ib]]
      exact do115_c a b w ia ib
    by_cases k12 : k = 12
    · subst k12
      rw [show doI 12 5 a b = partI 12 5 a b from by simp [doI, ia, ib]]
      exact do125_c a b w ia ib
    by_cases k13 : k = 13
    · subst k13
      rw [show doI 13 5 a b = (bits .and .i64 a b, (0 : Int)) from by simp [doI, ia, ib]]
      exact do135_c a b w ia ib
    by_cases k14 : k = 14
    · subst k14
      rw [show doI 14 5 a b = (bits .or .i64 a b, (0 : Int)) from by simp [doI, ia, ib]]
      exact do145_c a b w ia ib
    by_cases k15 : k = 15
    · subst k15
      rw [show doI 15 5 a b = (bits .xor .i64 a b, (0 : Int)) from by simp [doI, ia, ib]]
      exact do155_c a b w ia ib
    rw [show doI k 5 a b = (0, 0) from by simp [doI, k6, k7, k8, k9, k10, k11, k12, k13, k14, k15, k16, k17]]
    exact doN5_c k a b w (by simpa using k6) (by simpa using k7) (by simpa using k8) (by simpa using k9) (by simpa using k10) (by simpa using k11) (by simpa using k12) (by simpa using k13) (by simpa using k14) (by simpa using k15) (by simpa using k16) (by simpa using k17) ia ib
  · by_cases ia : inT 6 a = true
    rotate_left
    · rw [Bool.not_eq_true] at ia
      rw [show doI k 6 a b = (0, 0) from by simp [doI, ia]]
      exact doA6_c k a b w ia
    by_cases k16 : k = 16
    · subst k16
      rw [show doI 16 6 a b = shiftI 16 6 a b from by simp [doI, ia]]
      exact do166_c a b w ia
    by_cases k17 : k = 17
    · subst k17
      rw [show doI 17 6 a b = shiftI 17 6 a b from by simp [doI, ia]]
      exact do176_c a b w ia
    by_cases ib : inT 6 b = true
    rotate_left
    · rw [Bool.not_eq_true] at ib
      rw [show doI k 6 a b = (0, 0) from by simp [doI, ia, ib, k16, k17]]
      exact doB6_c k a b w (by simpa using k16) (by simpa using k17) ia ib
    by_cases k6 : k = 6
    · subst k6
      rw [show doI 6 6 a b = overI 6 (-a) from by simp [doI, ia, ib]]
      exact do66_c a b w ia ib
    by_cases k7 : k = 7
    · subst k7
      rw [show doI 7 6 a b = (wrapT 6 (bits .xor .i64 (-1) a), (0 : Int)) from by simp [doI, ia, ib]]
      exact do76_c a b w ia ib
    by_cases k8 : k = 8
    · subst k8
      rw [show doI 8 6 a b = overI 6 (a + b) from by simp [doI, ia, ib]]
      exact do86_c a b w ia ib
    by_cases k9 : k = 9
    · subst k9
      rw [show doI 9 6 a b = overI 6 (a - b) from by simp [doI, ia, ib]]
      exact do96_c a b w ia ib
    by_cases k10 : k = 10
    · subst k10
      rw [show doI 10 6 a b = timesI 6 a b from by simp [doI, ia, ib]]
      exact do106_c a b w ia ib
    by_cases k11 : k = 11
    · subst k11
      rw [show doI 11 6 a b = partI 11 6 a b from by simp [doI, ia, ib]]
      exact do116_c a b w ia ib
    by_cases k12 : k = 12
    · subst k12
      rw [show doI 12 6 a b = partI 12 6 a b from by simp [doI, ia, ib]]
      exact do126_c a b w ia ib
    by_cases k13 : k = 13
    · subst k13
      rw [show doI 13 6 a b = (bits .and .i64 a b, (0 : Int)) from by simp [doI, ia, ib]]
      exact do136_c a b w ia ib
    by_cases k14 : k = 14
    · subst k14
      rw [show doI 14 6 a b = (bits .or .i64 a b, (0 : Int)) from by simp [doI, ia, ib]]
      exact do146_c a b w ia ib
    by_cases k15 : k = 15
    · subst k15
      rw [show doI 15 6 a b = (bits .xor .i64 a b, (0 : Int)) from by simp [doI, ia, ib]]
      exact do156_c a b w ia ib
    rw [show doI k 6 a b = (0, 0) from by simp [doI, k6, k7, k8, k9, k10, k11, k12, k13, k14, k15, k16, k17]]
    exact doN6_c k a b w (by simpa using k6) (by simpa using k7) (by simpa using k8) (by simpa using k9) (by simpa using k10) (by simpa using k11) (by simpa using k12) (by simpa using k13) (by simpa using k14) (by simpa using k15) (by simpa using k16) (by simpa using k17) ia ib
end Go.Proofs.Ytnnhdkchdjddkaa.C
