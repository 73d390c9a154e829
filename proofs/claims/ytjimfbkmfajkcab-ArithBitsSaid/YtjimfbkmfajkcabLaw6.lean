/- The walks of the laws of operators, out of the contracts of what they call. -/
import Derived.Test.YtjimfbkmfajkcabRefArith
import Derived.Test.YtjimfbkmfajkcabWords
import Derived.Test.YtjimfbkmfajkcabWf
namespace Go.Proofs.Ytjimfbkmfajkcab.C
open Go.RowKit
set_option linter.unusedSimpArgs false
set_option linter.unusedVariables false
theorem awake6_c (w : World) : Calls Try.prog 45 #[] w fun e w' => e = .returned (.bool true) ∧ w = w' := by
  have e0 : doI 11 5 1 0 = (0, 2) := by decide +kernel
  go_enter Try.func45, Try.ntmps45
  go_wp2_with ((go_at_call 42; refine (do_c _ _ _ _ _).mono ?_; rintro e w' ⟨rfl, rfl⟩))
  go_ret
  exact ⟨rfl, rfl⟩
theorem arithAll_c (k t a b r : Int) (w : World) : Calls Try.prog 11 #[.int .i64 k, .int .i64 t, .int .i64 a, .int .i64 b, .int .i64 r] w fun e w' => e = .returned (.bool true) ∧ Below w.heap.size w w' := by
  go_enter Try.func11, Try.ntmps11
  go_wp2_with (first | (go_at_call 42; refine (do_c _ _ _ _ _).mono ?_; rintro e w' ⟨rfl, rfl⟩) | (go_at_call 43; refine (r_do_c _ _ _ _ _).mono ?_; rintro e w' ⟨rfl, rfl⟩) | (go_at_call 46; refine (rel_c _ _ _ _).mono ?_; rintro e w' ⟨rfl, rfl⟩) | (go_at_call 47; refine (r_rel_c _ _ _ _).mono ?_; rintro e w' ⟨rfl, rfl⟩) | (go_at_call 45; refine (awake6_c _).mono ?_; rintro e w' ⟨rfl, rfl⟩))
  go_ret
  exact ⟨rfl, Below.refl _ _⟩
theorem over_fits {t : Int} (ht : t = 5 ∨ t = 6) (v : Int) : ((overI t v).2 = 0 ∧ inT t (overI t v).1 = true) ∨ ((overI t v).2 ≠ 0 ∧ (overI t v).1 = 0) := by
  rcases ht with rfl | rfl
  · by_cases h : inT 5 v = true
    · rw [over5 h]; exact .inl ⟨rfl, h⟩
    · rw [over5' (by simpa using h)]; exact .inr ⟨by decide, rfl⟩
  · rw [over6]; exact .inl ⟨rfl, wrap6_in v⟩
theorem do_fits (k : Int) {t : Int} (ht : t = 5 ∨ t = 6) (a b : Int) : ((doI k t a b).2 = 0 ∧ inT t (doI k t a b).1 = true) ∨ ((doI k t a b).2 ≠ 0 ∧ (doI k t a b).1 = 0) := by
  have z5 : inT 5 0 = true := by decide
  have z6 : inT 6 0 = true := by decide
  have zt : inT t 0 = true := by rcases ht with rfl | rfl <;> assumption
  unfold doI
  by_cases h : ¬ (t = 5 ∨ t = 6) ∨ inT t a = false ∨ (¬ (k = 16 ∨ k = 17) ∧ inT t b = false)
  · rw [if_pos h]; exact .inl ⟨rfl, zt⟩
  rw [if_neg h]
  have ia : inT t a = true := by
    by_cases e : inT t a = true
    · exact e
    · exact absurd (.inr (.inl (by simpa using e))) h
  split; exact over_fits ht _
  split
  · left; refine ⟨rfl, ?_⟩; rcases ht with rfl | rfl
    · exact wrap5_in _
    · exact wrap6_in _
  split; exact over_fits ht _
  split; exact over_fits ht _
  split
  · rcases ht with rfl | rfl
    · unfold timesI; rw [if_neg (by decide)]; exact over_fits (.inl rfl) _
    · unfold timesI; rw [if_pos rfl]; left; exact ⟨rfl, inT6.mpr (by show 0 ≤ a * b % 4294967296 ∧ a * b % 4294967296 ≤ 4294967295; omega)⟩
  by_cases hm : k = 16 ∨ k = 17
  · rw [if_neg (by omega), if_neg (by omega), if_neg (by omega), if_neg (by omega), if_pos hm]
    unfold shiftI
    split; exact .inr ⟨by decide, rfl⟩
    rename_i hb
    have hp : 0 < (2 : Int) ^ b.toNat := Int.pow_pos (by decide)
    split
    · left
      refine ⟨rfl, ?_⟩
      have q1 : a / 2 ^ b.toNat ≤ a ∨ a < 0 := by
        by_cases h0 : 0 ≤ a
        · exact .inl (Int.ediv_le_self _ h0)
        · exact .inr (by omega)
      have q2 : 0 ≤ a → 0 ≤ a / 2 ^ b.toNat := fun h0 => Int.ediv_nonneg h0 (by omega)
      have q3 : a < 0 → a / 2 ^ b.toNat < 0 := fun h0 => Int.ediv_neg_of_neg_of_pos h0 hp
      have q4 : a < 0 → a ≤ a / 2 ^ b.toNat := fun h0 => by
        rw [Int.le_ediv_iff_mul_le hp]
        have hp1 : 1 ≤ (2 : Int) ^ b.toNat := hp
        have h9 : (-a) * 1 ≤ (-a) * 2 ^ b.toNat := Int.mul_le_mul_of_nonneg_left hp1 (by omega)
        rw [Int.neg_mul, Int.neg_mul, Int.mul_one] at h9
        generalize a * 2 ^ b.toNat = z at h9 ⊢
        omega
      rcases ht with rfl | rfl
      · have := inT5.mp ia; exact inT5.mpr (by show _ ≤ a / 2 ^ b.toNat ∧ a / 2 ^ b.toNat ≤ _; generalize a / 2 ^ b.toNat = z at *; omega)
      · have := inT6.mp ia; exact inT6.mpr (by show _ ≤ a / 2 ^ b.toNat ∧ a / 2 ^ b.toNat ≤ _; generalize a / 2 ^ b.toNat = z at *; omega)
    split
    · rename_i h6; subst h6; left; exact ⟨rfl, inT6.mpr (by show 0 ≤ a * 2 ^ b.toNat % 4294967296 ∧ a * 2 ^ b.toNat % 4294967296 ≤ 4294967295; omega)⟩
    split; exact .inr ⟨by decide, rfl⟩
    exact over_fits ht _
  have ib : inT t b = true := by
    by_cases e : inT t b = true
    · exact e
    · exact absurd (.inr (.inr ⟨hm, by simpa using e⟩)) h
  split
  · unfold partI
    split; exact .inr ⟨by decide, rfl⟩
    rename_i hb
    split; exact .inr ⟨by decide, rfl⟩
    rename_i hc
    split
    · left; refine ⟨rfl, ?_⟩; rcases ht with rfl | rfl
      · exact (tdiv5 ia ib hb (by simpa using hc)).1
      · exact (tdiv6 ia ib).1
    · left; refine ⟨rfl, ?_⟩; rcases ht with rfl | rfl
      · exact tmod5 ia
      · exact tmod6 ia
  split
  · left; refine ⟨rfl, ?_⟩; rcases ht with rfl | rfl
    · exact bits5 (.inl rfl) ia ib
    · exact bits6 (.inl rfl) ia ib
  split
  · left; refine ⟨rfl, ?_⟩; rcases ht with rfl | rfl
    · exact bits5 (.inr (.inl rfl)) ia ib
    · exact bits6 (.inr (.inl rfl)) ia ib
  split
  · left; refine ⟨rfl, ?_⟩; rcases ht with rfl | rfl
    · exact bits5 (.inr (.inr rfl)) ia ib
    · exact bits6 (.inr (.inr rfl)) ia ib
  exact .inl ⟨rfl, zt⟩
theorem arithFits_w (a0 a2 a3 a4 : Int) (u : Bool) (t : Int) (hu : u = false ∧ t = 5 ∨ u = true ∧ t = 6) (w : World) (h0 : 0 ≤ a0 ∧ a0 ≤ 255) (h2 : 0 ≤ a2 ∧ a2 ≤ 4294967295) (h3 : 0 ≤ a3 ∧ a3 ≤ 4294967295) (h4 : 0 ≤ a4 ∧ a4 ≤ 255) :
    Calls Try.prog 6 #[.int .u8 a0, .bool u, .int .u32 a2, .int .u32 a3, .int .u8 a4] w fun e w' => e = .returned (.bool true) ∧ Below w.heap.size w w' := by
  obtain ⟨k, hk, ek⟩ : ∃ n, (6 ≤ n ∧ n ≤ 17) ∧ 6 + a0 % 12 = n := ⟨6 + a0 % 12, by omega, rfl⟩
  have W1 := wrapT_bd t a2
  have W2 := wrapT_bd t a3
  by_cases k16 : k = 16
  · have q16 : (k == 16) = true := by simpa using k16
    have F := do_fits k (show t = 5 ∨ t = 6 by omega) (wrapT t a2) (a4 - 2)
    obtain ⟨r, hr⟩ : ∃ r, doI k t (wrapT t a2) (a4 - 2) = r := ⟨_, rfl⟩
    rw [hr] at F
    clear k16
    rcases F with ⟨f1, f2⟩ | ⟨f1, f2⟩
    · have f3 : (r.2 != 0) = false := by simpa using f1
      have f4 : (r.2 == 0) = true := by simpa using f1
      clear f1
      rcases hu with ⟨rfl, rfl⟩ | ⟨rfl, rfl⟩
      · go_enter Try.func6, Try.ntmps6
        go_wp2_with (first | (go_at_call 24; refine (r_wrap_c _ _ _).mono ?_; rintro e w' ⟨rfl, rfl⟩) | (go_at_call 42; refine (do_c _ _ _ _ _).mono ?_; rintro e w' ⟨rfl, rfl⟩) | (go_at_call 43; refine (r_do_c _ _ _ _ _).mono ?_; rintro e w' ⟨rfl, rfl⟩) | (go_at_call 44; refine (r_in_c _ _ _).mono ?_; rintro e w' ⟨rfl, rfl⟩) | (go_at_call 45; refine (awake6_c _).mono ?_; rintro e w' ⟨rfl, rfl⟩))
        go_ret
        exact ⟨rfl, Below.refl _ _⟩
      · go_enter Try.func6, Try.ntmps6
        go_wp2_with (first | (go_at_call 24; refine (r_wrap_c _ _ _).mono ?_; rintro e w' ⟨rfl, rfl⟩) | (go_at_call 42; refine (do_c _ _ _ _ _).mono ?_; rintro e w' ⟨rfl, rfl⟩) | (go_at_call 43; refine (r_do_c _ _ _ _ _).mono ?_; rintro e w' ⟨rfl, rfl⟩) | (go_at_call 44; refine (r_in_c _ _ _).mono ?_; rintro e w' ⟨rfl, rfl⟩) | (go_at_call 45; refine (awake6_c _).mono ?_; rintro e w' ⟨rfl, rfl⟩))
        go_ret
        exact ⟨rfl, Below.refl _ _⟩
    · have f3 : (r.2 != 0) = true := by simpa using f1
      have f4 : (r.2 == 0) = false := by simpa using f1
      clear f1
      rcases hu with ⟨rfl, rfl⟩ | ⟨rfl, rfl⟩
      · go_enter Try.func6, Try.ntmps6
        go_wp2_with (first | (go_at_call 24; refine (r_wrap_c _ _ _).mono ?_; rintro e w' ⟨rfl, rfl⟩) | (go_at_call 42; refine (do_c _ _ _ _ _).mono ?_; rintro e w' ⟨rfl, rfl⟩) | (go_at_call 43; refine (r_do_c _ _ _ _ _).mono ?_; rintro e w' ⟨rfl, rfl⟩) | (go_at_call 44; refine (r_in_c _ _ _).mono ?_; rintro e w' ⟨rfl, rfl⟩) | (go_at_call 45; refine (awake6_c _).mono ?_; rintro e w' ⟨rfl, rfl⟩))
        go_ret
        exact ⟨rfl, Below.refl _ _⟩
      · go_enter Try.func6, Try.ntmps6
        go_wp2_with (first | (go_at_call 24; refine (r_wrap_c _ _ _).mono ?_; rintro e w' ⟨rfl, rfl⟩) | (go_at_call 42; refine (do_c _ _ _ _ _).mono ?_; rintro e w' ⟨rfl, rfl⟩) | (go_at_call 43; refine (r_do_c _ _ _ _ _).mono ?_; rintro e w' ⟨rfl, rfl⟩) | (go_at_call 44; refine (r_in_c _ _ _).mono ?_; rintro e w' ⟨rfl, rfl⟩) | (go_at_call 45; refine (awake6_c _).mono ?_; rintro e w' ⟨rfl, rfl⟩))
        go_ret
        exact ⟨rfl, Below.refl _ _⟩
  have q16 : (k == 16) = false := by simpa using k16
  by_cases k17 : k = 17
  · have q17 : (k == 17) = true := by simpa using k17
    have F := do_fits k (show t = 5 ∨ t = 6 by omega) (wrapT t a2) (a4 - 2)
    obtain ⟨r, hr⟩ : ∃ r, doI k t (wrapT t a2) (a4 - 2) = r := ⟨_, rfl⟩
    rw [hr] at F
    clear k16 k17
    rcases F with ⟨f1, f2⟩ | ⟨f1, f2⟩
    · have f3 : (r.2 != 0) = false := by simpa using f1
      have f4 : (r.2 == 0) = true := by simpa using f1
      clear f1
      rcases hu with ⟨rfl, rfl⟩ | ⟨rfl, rfl⟩
      · go_enter Try.func6, Try.ntmps6
        go_wp2_with (first | (go_at_call 24; refine (r_wrap_c _ _ _).mono ?_; rintro e w' ⟨rfl, rfl⟩) | (go_at_call 42; refine (do_c _ _ _ _ _).mono ?_; rintro e w' ⟨rfl, rfl⟩) | (go_at_call 43; refine (r_do_c _ _ _ _ _).mono ?_; rintro e w' ⟨rfl, rfl⟩) | (go_at_call 44; refine (r_in_c _ _ _).mono ?_; rintro e w' ⟨rfl, rfl⟩) | (go_at_call 45; refine (awake6_c _).mono ?_; rintro e w' ⟨rfl, rfl⟩))
        go_ret
        exact ⟨rfl, Below.refl _ _⟩
      · go_enter Try.func6, Try.ntmps6
        go_wp2_with (first | (go_at_call 24; refine (r_wrap_c _ _ _).mono ?_; rintro e w' ⟨rfl, rfl⟩) | (go_at_call 42; refine (do_c _ _ _ _ _).mono ?_; rintro e w' ⟨rfl, rfl⟩) | (go_at_call 43; refine (r_do_c _ _ _ _ _).mono ?_; rintro e w' ⟨rfl, rfl⟩) | (go_at_call 44; refine (r_in_c _ _ _).mono ?_; rintro e w' ⟨rfl, rfl⟩) | (go_at_call 45; refine (awake6_c _).mono ?_; rintro e w' ⟨rfl, rfl⟩))
        go_ret
        exact ⟨rfl, Below.refl _ _⟩
    · have f3 : (r.2 != 0) = true := by simpa using f1
      have f4 : (r.2 == 0) = false := by simpa using f1
      clear f1
      rcases hu with ⟨rfl, rfl⟩ | ⟨rfl, rfl⟩
      · go_enter Try.func6, Try.ntmps6
        go_wp2_with (first | (go_at_call 24; refine (r_wrap_c _ _ _).mono ?_; rintro e w' ⟨rfl, rfl⟩) | (go_at_call 42; refine (do_c _ _ _ _ _).mono ?_; rintro e w' ⟨rfl, rfl⟩) | (go_at_call 43; refine (r_do_c _ _ _ _ _).mono ?_; rintro e w' ⟨rfl, rfl⟩) | (go_at_call 44; refine (r_in_c _ _ _).mono ?_; rintro e w' ⟨rfl, rfl⟩) | (go_at_call 45; refine (awake6_c _).mono ?_; rintro e w' ⟨rfl, rfl⟩))
        go_ret
        exact ⟨rfl, Below.refl _ _⟩
      · go_enter Try.func6, Try.ntmps6
        go_wp2_with (first | (go_at_call 24; refine (r_wrap_c _ _ _).mono ?_; rintro e w' ⟨rfl, rfl⟩) | (go_at_call 42; refine (do_c _ _ _ _ _).mono ?_; rintro e w' ⟨rfl, rfl⟩) | (go_at_call 43; refine (r_do_c _ _ _ _ _).mono ?_; rintro e w' ⟨rfl, rfl⟩) | (go_at_call 44; refine (r_in_c _ _ _).mono ?_; rintro e w' ⟨rfl, rfl⟩) | (go_at_call 45; refine (awake6_c _).mono ?_; rintro e w' ⟨rfl, rfl⟩))
        go_ret
        exact ⟨rfl, Below.refl _ _⟩
  have q17 : (k == 17) = false := by simpa using k17
  have F := do_fits k (show t = 5 ∨ t = 6 by omega) (wrapT t a2) (wrapT t a3)
  obtain ⟨r, hr⟩ : ∃ r, doI k t (wrapT t a2) (wrapT t a3) = r := ⟨_, rfl⟩
  rw [hr] at F
  clear k16 k17
  rcases F with ⟨f1, f2⟩ | ⟨f1, f2⟩
  · have f3 : (r.2 != 0) = false := by simpa using f1
    have f4 : (r.2 == 0) = true := by simpa using f1
    clear f1
    rcases hu with ⟨rfl, rfl⟩ | ⟨rfl, rfl⟩
    · go_enter Try.func6, Try.ntmps6
      go_wp2_with (first | (go_at_call 24; refine (r_wrap_c _ _ _).mono ?_; rintro e w' ⟨rfl, rfl⟩) | (go_at_call 42; refine (do_c _ _ _ _ _).mono ?_; rintro e w' ⟨rfl, rfl⟩) | (go_at_call 43; refine (r_do_c _ _ _ _ _).mono ?_; rintro e w' ⟨rfl, rfl⟩) | (go_at_call 44; refine (r_in_c _ _ _).mono ?_; rintro e w' ⟨rfl, rfl⟩) | (go_at_call 45; refine (awake6_c _).mono ?_; rintro e w' ⟨rfl, rfl⟩))
      go_ret
      exact ⟨rfl, Below.refl _ _⟩
    · go_enter Try.func6, Try.ntmps6
      go_wp2_with (first | (go_at_call 24; refine (r_wrap_c _ _ _).mono ?_; rintro e w' ⟨rfl, rfl⟩) | (go_at_call 42; refine (do_c _ _ _ _ _).mono ?_; rintro e w' ⟨rfl, rfl⟩) | (go_at_call 43; refine (r_do_c _ _ _ _ _).mono ?_; rintro e w' ⟨rfl, rfl⟩) | (go_at_call 44; refine (r_in_c _ _ _).mono ?_; rintro e w' ⟨rfl, rfl⟩) | (go_at_call 45; refine (awake6_c _).mono ?_; rintro e w' ⟨rfl, rfl⟩))
      go_ret
      exact ⟨rfl, Below.refl _ _⟩
  · have f3 : (r.2 != 0) = true := by simpa using f1
    have f4 : (r.2 == 0) = false := by simpa using f1
    clear f1
    rcases hu with ⟨rfl, rfl⟩ | ⟨rfl, rfl⟩
    · go_enter Try.func6, Try.ntmps6
      go_wp2_with (first | (go_at_call 24; refine (r_wrap_c _ _ _).mono ?_; rintro e w' ⟨rfl, rfl⟩) | (go_at_call 42; refine (do_c _ _ _ _ _).mono ?_; rintro e w' ⟨rfl, rfl⟩) | (go_at_call 43; refine (r_do_c _ _ _ _ _).mono ?_; rintro e w' ⟨rfl, rfl⟩) | (go_at_call 44; refine (r_in_c _ _ _).mono ?_; rintro e w' ⟨rfl, rfl⟩) | (go_at_call 45; refine (awake6_c _).mono ?_; rintro e w' ⟨rfl, rfl⟩))
      go_ret
      exact ⟨rfl, Below.refl _ _⟩
    · go_enter Try.func6, Try.ntmps6
      go_wp2_with (first | (go_at_call 24; refine (r_wrap_c _ _ _).mono ?_; rintro e w' ⟨rfl, rfl⟩) | (go_at_call 42; refine (do_c _ _ _ _ _).mono ?_; rintro e w' ⟨rfl, rfl⟩) | (go_at_call 43; refine (r_do_c _ _ _ _ _).mono ?_; rintro e w' ⟨rfl, rfl⟩) | (go_at_call 44; refine (r_in_c _ _ _).mono ?_; rintro e w' ⟨rfl, rfl⟩) | (go_at_call 45; refine (awake6_c _).mono ?_; rintro e w' ⟨rfl, rfl⟩))
      go_ret
      exact ⟨rfl, Below.refl _ _⟩
theorem arithFits_c (a0 a2 a3 a4 : Int) (u : Bool) (w : World) (h0 : 0 ≤ a0 ∧ a0 ≤ 255) (h2 : 0 ≤ a2 ∧ a2 ≤ 4294967295) (h3 : 0 ≤ a3 ∧ a3 ≤ 4294967295) (h4 : 0 ≤ a4 ∧ a4 ≤ 255) :
    Calls Try.prog 6 #[.int .u8 a0, .bool u, .int .u32 a2, .int .u32 a3, .int .u8 a4] w fun e w' => e = .returned (.bool true) ∧ Below w.heap.size w w' := by
  cases u
  · exact arithFits_w a0 a2 a3 a4 false 5 (.inl ⟨rfl, rfl⟩) w h0 h2 h3 h4
  · exact arithFits_w a0 a2 a3 a4 true 6 (.inr ⟨rfl, rfl⟩) w h0 h2 h3 h4
end Go.Proofs.Ytjimfbkmfajkcab.C
