/- ArithDivs, ArithShifts: walks. -/
import Derived.Test.YtjimfbkmfajkcabLaw6
namespace Go.Proofs.Ytjimfbkmfajkcab.C
open Go.RowKit
set_option linter.unusedSimpArgs false
set_option linter.unusedVariables false
theorem div5 {a b : Int} (ha : inT 5 a = true) (hb : inT 5 b = true) (h0 : b ≠ 0) (h : ¬ (a = -2147483648 ∧ b = -1)) : doI 11 5 a b = (a.tdiv b, 0) ∧ doI 12 5 a b = (a.tmod b, 0) := by
  have := (tdiv5 ha hb h0 h).2
  constructor
  · simp only [doI, ha, hb]
    simp [partI, h0, this]
    intro h1 h2; exact absurd ⟨h1, h2⟩ h
  · simp only [doI, ha, hb]
    simp [partI, h0]
    intro h1 h2; exact absurd ⟨h1, h2⟩ h
theorem div6 {a b : Int} (ha : inT 6 a = true) (hb : inT 6 b = true) (h0 : b ≠ 0) : doI 11 6 a b = (a / b, 0) ∧ doI 12 6 a b = (a % b, 0) := by
  have h1 := (inT6.mp ha).1
  constructor
  · rw [show a / b = a.tdiv b from (Int.tdiv_eq_ediv_of_nonneg h1).symm, ← (tdiv6 ha hb).2]
    simp only [doI, ha, hb]
    simp [partI, h0]
  · rw [show a % b = a.tmod b from (Int.tmod_eq_emod_of_nonneg h1).symm]
    simp only [doI, ha, hb]
    simp [partI, h0]
set_option maxRecDepth 100000 in
set_option maxHeartbeats 1600000 in
theorem arithDivs_c (x y c d : Int) (w : World) (h0 : -2147483648 ≤ x ∧ x ≤ 2147483647) (h1 : -2147483648 ≤ y ∧ y ≤ 2147483647) (h2 : 0 ≤ c ∧ c ≤ 4294967295) (h3 : 0 ≤ d ∧ d ≤ 4294967295) :
    Calls Try.prog 8 #[.int .i32 x, .int .i32 y, .int .u32 c, .int .u32 d] w fun e w' => e = .returned (.bool true) ∧ Below w.heap.size w w' := by
  have ix := inT5.mpr h0
  have iy := inT5.mpr h1
  have ic := inT6.mpr h2
  have id_ := inT6.mpr h3
  by_cases y0 : y = 0
  · subst y0
    have D1 : doI 11 5 x 0 = (0, 2) := by simp [doI, ix, iy, partI]
    have D2 : doI 12 5 x 0 = (0, 2) := by simp [doI, ix, iy, partI]
    go_enter Try.func8, Try.ntmps8
    go_wp2_with (first | (go_at_call 42; refine (do_c _ _ _ _ _).mono ?_; rintro e w' ⟨rfl, rfl⟩) | (go_at_call 45; refine (awake6_c _).mono ?_; rintro e w' ⟨rfl, rfl⟩))
    go_ret
    exact ⟨rfl, Below.refl _ _⟩
  have ny : (y == 0) = false := by simpa using y0
  by_cases hs : x = -2147483648 ∧ y = -1
  · obtain ⟨rfl, rfl⟩ := hs
    have D1 : doI 11 5 (-2147483648) (-1) = (0, 1) := by decide +kernel
    have D2 : doI 12 5 (-2147483648) (-1) = (0, 1) := by decide +kernel
    go_enter Try.func8, Try.ntmps8
    go_wp2_with (first | (go_at_call 42; refine (do_c _ _ _ _ _).mono ?_; rintro e w' ⟨rfl, rfl⟩) | (go_at_call 45; refine (awake6_c _).mono ?_; rintro e w' ⟨rfl, rfl⟩))
    go_ret
    exact ⟨rfl, Below.refl _ _⟩
  obtain ⟨D1, D2⟩ := div5 ix iy y0 hs
  have P1 : y * x.tdiv y + x.tmod y = x := Int.mul_tdiv_add_tmod x y
  have P2 : (x.tmod y).natAbs < y.natAbs := by rw [Int.natAbs_tmod]; exact Nat.mod_lt _ (by omega)
  have P3 : x.tmod y ≠ 0 → (x.tmod y < 0 ↔ x < 0) := by
    intro h
    by_cases hx : 0 ≤ x
    · have := Int.tmod_nonneg y hx; omega
    · have := Int.tmod_nonneg y (show 0 ≤ -x by omega)
      rw [Int.neg_tmod] at this
      omega
  have B1 := tdiv_bd x y
  have B2 := tmod_bd x y
  obtain ⟨q, hq⟩ : ∃ q, x.tdiv y = q := ⟨_, rfl⟩
  obtain ⟨r, hr⟩ : ∃ q, x.tmod y = q := ⟨_, rfl⟩
  rw [hq] at D1 P1 B1
  rw [hr] at D2 P1 P2 P3 B2
  rw [Int.mul_comm] at P1
  obtain ⟨p, hp⟩ : ∃ p, q * y = p := ⟨_, rfl⟩
  rw [hp] at P1
  have HM : Hid (max r (-r) < max y (-y)) := (show max r (-r) < max y (-y) by omega)
  have b1 : -2147483648 ≤ q := by omega
  have b2 : q ≤ 2147483648 := by omega
  have b3 : -4294967296 ≤ p := by omega
  have b4 : p ≤ 4294967296 := by omega
  have b5 : -2147483648 ≤ r := by omega
  have b6 : r ≤ 2147483648 := by omega
  have S1 : (x == -2147483648) = true ∧ (y == -1) = false ∨ (x == -2147483648) = false := by
    by_cases e : x = -2147483648
    · exact .inl ⟨by simpa using e, by simpa using fun k => hs ⟨e, k⟩⟩
    · exact .inr (by simpa using e)
  have R1 : (r == 0) = true ∨ (r == 0) = false ∧ (decide (r < 0) = true ∧ decide (x < 0) = true ∨ decide (r < 0) = false ∧ decide (x < 0) = false) := by
    by_cases e : r = 0
    · exact .inl (by simpa using e)
    · refine .inr ⟨by simpa using e, ?_⟩
      have := P3 e
      by_cases k : r < 0
      · exact .inl ⟨decide_eq_true k, decide_eq_true (this.mp k)⟩
      · exact .inr ⟨decide_eq_false k, decide_eq_false (fun z => k (this.mpr z))⟩
  clear P2 P3 B1 B2 hs
  obtain ⟨h0a, h0b⟩ := h0
  obtain ⟨h1a, h1b⟩ := h1
  obtain ⟨h2a, h2b⟩ := h2
  obtain ⟨h3a, h3b⟩ := h3
  have D34 : (d = 0 ∧ (d == 0) = true ∧ (d != 0) = false ∧ doI 11 6 c d = (0, 2) ∧ doI 12 6 c d = (0, 2)) ∨ (d ≠ 0 ∧ (d == 0) = false ∧ (d != 0) = true ∧ doI 11 6 c d = (c / d, 0) ∧ doI 12 6 c d = (c % d, 0)) := by
    by_cases e : d = 0
    · subst e; exact .inl ⟨rfl, rfl, rfl, by simp [doI, ic, id_, partI], by simp [doI, ic, id_, partI]⟩
    · exact .inr ⟨e, by simpa using e, by simpa using e, (div6 ic id_ e).1, (div6 ic id_ e).2⟩
  clear ix iy hq hr
  rcases D34 with ⟨rfl, d1, d2, D3, D4⟩ | ⟨d0, d1, d2, D3, D4⟩
  · clear ic id_
    rcases S1 with ⟨s1, s2⟩ | s1
    · rcases R1 with r1 | ⟨r1, ⟨r2, r3⟩ | ⟨r2, r3⟩⟩
      all_goals
        go_enter Try.func8, Try.ntmps8
        go_wp2_with (first | (go_at_call 42; refine (do_c _ _ _ _ _).mono ?_; rintro e w' ⟨rfl, rfl⟩) | (go_at_call 45; refine (awake6_c _).mono ?_; rintro e w' ⟨rfl, rfl⟩))
        all_goals first | (go_ret; exact ⟨rfl, Below.refl _ _⟩) | (exfalso; have := HM.out; omega)
    · rcases R1 with r1 | ⟨r1, ⟨r2, r3⟩ | ⟨r2, r3⟩⟩
      all_goals
        go_enter Try.func8, Try.ntmps8
        go_wp2_with (first | (go_at_call 42; refine (do_c _ _ _ _ _).mono ?_; rintro e w' ⟨rfl, rfl⟩) | (go_at_call 45; refine (awake6_c _).mono ?_; rintro e w' ⟨rfl, rfl⟩))
        all_goals first | (go_ret; exact ⟨rfl, Below.refl _ _⟩) | (exfalso; have := HM.out; omega)
  · obtain ⟨z3, hz3⟩ : ∃ z, c / d = z := ⟨_, rfl⟩
    obtain ⟨z4, hz4⟩ : ∃ z, c % d = z := ⟨_, rfl⟩
    rw [hz3] at D3
    rw [hz4] at D4
    have g3 := (tdiv6 ic id_).2
    rw [Int.tdiv_eq_ediv_of_nonneg h2a] at g3
    have HZ3 : Hid (wrap64 (c / d) = z3) := g3.trans hz3
    have g4 := inT6.mp (tmod6 (b := d) ic)
    rw [Int.tmod_eq_emod_of_nonneg h2a] at g4
    have HZ4 : Hid (wrap64 (c % d) = z4) := (show wrap64 (c % d) = c % d from by unfold wrap64; omega).trans hz4
    clear ic id_ g3 g4
    clear hz3 hz4
    rcases S1 with ⟨s1, s2⟩ | s1
    · rcases R1 with r1 | ⟨r1, ⟨r2, r3⟩ | ⟨r2, r3⟩⟩
      all_goals
        go_enter Try.func8, Try.ntmps8
        go_wp2_with (first | (go_at_call 42; refine (do_c _ _ _ _ _).mono ?_; rintro e w' ⟨rfl, rfl⟩) | (go_at_call 45; refine (awake6_c _).mono ?_; rintro e w' ⟨rfl, rfl⟩))
        all_goals first | (go_ret; exact ⟨rfl, Below.refl _ _⟩) | (exfalso; have := HM.out; have := HZ3.out; have := HZ4.out; omega)
    · rcases R1 with r1 | ⟨r1, ⟨r2, r3⟩ | ⟨r2, r3⟩⟩
      all_goals
        go_enter Try.func8, Try.ntmps8
        go_wp2_with (first | (go_at_call 42; refine (do_c _ _ _ _ _).mono ?_; rintro e w' ⟨rfl, rfl⟩) | (go_at_call 45; refine (awake6_c _).mono ?_; rintro e w' ⟨rfl, rfl⟩))
        all_goals first | (go_ret; exact ⟨rfl, Below.refl _ _⟩) | (exfalso; have := HM.out; have := HZ3.out; have := HZ4.out; omega)
end Go.Proofs.Ytjimfbkmfajkcab.C
