/- ArithShifts: walk. -/
import Derived.Test.YtjimfbkmfajkcabLaw6
import Derived.BigFrame
import Derived.BigGuard
import Derived.BigRegion
import Derived.Deep.CutBlock
namespace Go.Proofs.Ytjimfbkmfajkcab.C
open Go.RowKit
set_option linter.unusedSimpArgs false
set_option linter.unusedVariables false
theorem shl5 (x P : Int) (hx : -2147483648 ≤ x ∧ x ≤ 2147483647) (k : Int) (h0 : 0 ≤ k ∧ k ≤ 31) (hP : (2 : Int) ^ k.toNat = P) (h1 : 1 ≤ P ∧ P ≤ 2147483648) : (x < 0 ∧ doI 16 5 x k = (0, 1)) ∨ (0 ≤ x ∧ 2147483648 ≤ x * P ∧ doI 16 5 x k = (0, 1)) ∨ (0 ≤ x ∧ x * P < 2147483648 ∧ doI 16 5 x k = (x * P, 0)) := by
  have ix := inT5.mpr hx
  have e : doI 16 5 x k = shiftI 16 5 x k := by simp [doI, ix]
  rw [e]
  unfold shiftI
  rw [if_neg (by omega), if_neg (by decide), if_neg (by decide), hP]
  by_cases hn : x < 0
  · rw [if_pos hn]; exact .inl ⟨hn, rfl⟩
  rw [if_neg hn]
  have b1 : 0 ≤ x * P := Int.mul_nonneg (by omega) (by omega)
  have b2 : x * P ≤ 2147483647 * 2147483648 := Int.mul_le_mul hx.2 h1.2 (by omega) (by omega)
  have b3 : wrap64 (x * P) = x * P := by unfold wrap64; generalize x * P = z at *; omega
  rw [b3]
  by_cases hm : x * P < 2147483648
  · refine .inr (.inr ⟨by omega, hm, over5 (inT5.mpr ?_)⟩)
    generalize x * P = z at *; omega
  · refine .inr (.inl ⟨by omega, by generalize x * P = z at *; omega, over5' ?_⟩)
    rw [← Bool.not_eq_true, inT5]
    generalize x * P = z at *; omega
set_option maxRecDepth 100000 in
set_option maxHeartbeats 1600000 in
theorem arithShifts_c (x c k : Int) (w : World) (h0 : -2147483648 ≤ x ∧ x ≤ 2147483647) (h1 : 0 ≤ c ∧ c ≤ 4294967295) (h2 : -128 ≤ k ∧ k ≤ 127) :
    Calls Try.prog 9 #[.int .i32 x, .int .u32 c, .int .i8 k] w fun e w' => e = .returned (.bool true) ∧ Below w.heap.size w w' := by
  have ix := inT5.mpr h0
  have ic := inT6.mpr h1
  by_cases hk : k < 0 ∨ 31 < k
  · have D1 : doI 16 5 x k = (0, 3) := by simp only [doI, ix]; simp [shiftI]; omega
    have D2 : doI 17 5 x k = (0, 3) := by simp only [doI, ix]; simp [shiftI]; omega
    have D3 : doI 16 6 c k = (0, 3) := by simp only [doI, ic]; simp [shiftI]; omega
    have D4 : doI 17 6 c k = (0, 3) := by simp only [doI, ic]; simp [shiftI]; omega
    have hk2 : decide (k < 0) = true ∨ decide (k < 0) = false ∧ decide (31 < k) = true := by
      by_cases e : k < 0
      · exact .inl (decide_eq_true e)
      · exact .inr ⟨decide_eq_false e, decide_eq_true (by omega)⟩
    clear hk ix ic
    rcases hk2 with k1 | ⟨k1, k2⟩
    · go_enter Try.func9, Try.ntmps9
      go_wp2_with (first | (go_at_call 42; refine (do_c _ _ _ _ _).mono ?_; rintro e w' ⟨rfl, rfl⟩) | (go_at_call 45; refine (awake6_c _).mono ?_; rintro e w' ⟨rfl, rfl⟩))
      go_ret
      exact ⟨rfl, Below.refl _ _⟩
    · go_enter Try.func9, Try.ntmps9
      go_wp2_with (first | (go_at_call 42; refine (do_c _ _ _ _ _).mono ?_; rintro e w' ⟨rfl, rfl⟩) | (go_at_call 45; refine (awake6_c _).mono ?_; rintro e w' ⟨rfl, rfl⟩))
      go_ret
      exact ⟨rfl, Below.refl _ _⟩
  have hk0 : 0 ≤ k := by omega
  have hk1 : k ≤ 31 := by omega
  have d0 : decide (k < 0) = false := decide_eq_false (by omega)
  have d1 : decide (31 < k) = false := decide_eq_false (by omega)
  have hP1 : (1 : Int) ≤ 2 ^ k.toNat ∧ (2 : Int) ^ k.toNat ≤ 2147483648 := by
    have e1 : (2 : Int) ^ k.toNat = ((2 ^ k.toNat : Nat) : Int) := by simp
    rw [e1]
    have e2 : 2 ^ k.toNat ≤ 2 ^ 31 := Nat.pow_le_pow_right (by decide) (by omega)
    have e3 : 0 < 2 ^ k.toNat := Nat.two_pow_pos _
    have e4 : (2 : Nat) ^ 31 = 2147483648 := by decide
    omega
  have D1 := shl5 x (2 ^ k.toNat) h0 k ⟨hk0, hk1⟩ rfl hP1
  have n1 : ¬ (k < 0 ∨ 32 ≤ k) := by omega
  have D2 : doI 17 5 x k = (x / 2 ^ k.toNat, 0) := by simp only [doI, ix]; simp [shiftI, n1]
  have D3 : doI 16 6 c k = (c * 2 ^ k.toNat % 4294967296, 0) := by simp only [doI, ic]; simp [shiftI, n1]
  have D4 : doI 17 6 c k = (c / 2 ^ k.toNat, 0) := by simp only [doI, ic]; simp [shiftI, n1]
  have q2 : -2147483648 ≤ x / 2 ^ k.toNat ∧ x / 2 ^ k.toNat ≤ 2147483647 := by
    have := inT5.mp (show inT 5 (doI 17 5 x k).1 = true by
      rcases do_fits 17 (.inl rfl : (5 : Int) = 5 ∨ (5 : Int) = 6) x k with h | h
      · exact h.2
      · rw [h.2]; decide)
    rw [D2] at this; exact this
  have q4 : 0 ≤ c / 2 ^ k.toNat ∧ c / 2 ^ k.toNat ≤ 4294967295 := by
    have := inT6.mp (show inT 6 (doI 17 6 c k).1 = true by
      rcases do_fits 17 (.inr rfl : (6 : Int) = 5 ∨ (6 : Int) = 6) c k with h | h
      · exact h.2
      · rw [h.2]; decide)
    rw [D4] at this; exact this
  obtain ⟨q2a, q2b⟩ := q2
  obtain ⟨q4a, q4b⟩ := q4
  clear n1 hk ix ic
  obtain ⟨h0a, h0b⟩ := h0
  obtain ⟨h1a, h1b⟩ := h1
  obtain ⟨h2a, h2b⟩ := h2
  obtain ⟨hPa, hPb⟩ := hP1
  rcases D1 with ⟨e1, D1⟩ | ⟨e1, e2, D1⟩ | ⟨e1, e2, D1⟩
  · have g1 : decide (0 ≤ x) = false := decide_eq_false (by omega)
    go_enter Try.func9, Try.ntmps9
    go_upto_region 9 with (first | (go_at_call 42; refine (do_c _ _ _ _ _).mono ?_; rintro e w' ⟨rfl, rfl⟩) | (go_at_call 45; refine (awake6_c _).mono ?_; rintro e w' ⟨rfl, rfl⟩))
    simp only [List.append_eq, List.cons_append, List.nil_append]
    go_wp2_with (first | (go_at_call 42; refine (do_c _ _ _ _ _).mono ?_; rintro e w' ⟨rfl, rfl⟩) | (go_at_call 45; refine (awake6_c _).mono ?_; rintro e w' ⟨rfl, rfl⟩))
    go_ret
    exact ⟨rfl, Below.refl _ _⟩
  · have g1 : decide (0 ≤ x) = true := decide_eq_true (by omega)
    have b2 : x * 2 ^ k.toNat ≤ 2147483647 * 2147483648 := Int.mul_le_mul h0b hPb (by omega) (by omega)
    have g2 : decide (x * 2 ^ k.toNat < 2147483648) = false := decide_eq_false (by omega)
    go_enter Try.func9, Try.ntmps9
    go_upto_region 9 with (first | (go_at_call 42; refine (do_c _ _ _ _ _).mono ?_; rintro e w' ⟨rfl, rfl⟩) | (go_at_call 45; refine (awake6_c _).mono ?_; rintro e w' ⟨rfl, rfl⟩))
    simp only [List.append_eq, List.cons_append, List.nil_append]
    go_wp2_with (first | (go_at_call 42; refine (do_c _ _ _ _ _).mono ?_; rintro e w' ⟨rfl, rfl⟩) | (go_at_call 45; refine (awake6_c _).mono ?_; rintro e w' ⟨rfl, rfl⟩))
    go_ret
    exact ⟨rfl, Below.refl _ _⟩
  · have g1 : decide (0 ≤ x) = true := decide_eq_true (by omega)
    have b1 : 0 ≤ x * 2 ^ k.toNat := Int.mul_nonneg (by omega) (by omega)
    have g2 : decide (x * 2 ^ k.toNat < 2147483648) = true := decide_eq_true (by omega)
    go_enter Try.func9, Try.ntmps9
    go_upto_region 9 with (first | (go_at_call 42; refine (do_c _ _ _ _ _).mono ?_; rintro e w' ⟨rfl, rfl⟩) | (go_at_call 45; refine (awake6_c _).mono ?_; rintro e w' ⟨rfl, rfl⟩))
    simp only [List.append_eq, List.cons_append, List.nil_append]
    go_wp2_with (first | (go_at_call 42; refine (do_c _ _ _ _ _).mono ?_; rintro e w' ⟨rfl, rfl⟩) | (go_at_call 45; refine (awake6_c _).mono ?_; rintro e w' ⟨rfl, rfl⟩))
    go_ret
    exact ⟨rfl, Below.refl _ _⟩
end Go.Proofs.Ytjimfbkmfajkcab.C
