/- The walks of the laws of types, out of the contracts of what they call. -/
import Derived.Test.YtjimfbkmfajkcaaRefTyp
namespace Go.Proofs.Ytjimfbkmfajkcaa.C
open Go.RowKit
set_option linter.unusedSimpArgs false
set_option linter.unusedVariables false

theorem awake1_c (w : World) : Calls Try.prog 19 #[] w fun e w' => e = .returned (.bool true) ∧ w = w' := by
  have e1 : wrapT 2 257 = 1 := by decide
  go_enter Try.func19, Try.ntmps19
  go_wp2_with ((go_at_call 15; refine (wrap_c _ _ _).mono ?_; rintro e w' ⟨rfl, rfl⟩))
  go_ret
  exact ⟨rfl, rfl⟩
theorem typAll_c (t u v : Int) (s : ByteArray) (w : World) : Calls Try.prog 10 #[.int .i64 t, .int .i64 u, .int .i64 v, .string s] w fun e w' => e = .returned (.bool true) ∧ Below w.heap.size w w' := by
  go_enter Try.func10, Try.ntmps10
  go_wp2_with (first | (go_at_call 17; refine (min_c _ _).mono ?_; rintro e w' ⟨rfl, rfl⟩) | (go_at_call 16; refine (max_c _ _).mono ?_; rintro e w' ⟨rfl, rfl⟩) | (go_at_call 18; refine (in_c _ _ _).mono ?_; rintro e w' ⟨rfl, rfl⟩) | (go_at_call 15; refine (wrap_c _ _ _).mono ?_; rintro e w' ⟨rfl, rfl⟩) | (go_at_call 45; refine (up_c _ _).mono ?_; rintro e w' ⟨rfl, rfl⟩) | (go_at_call 27; refine (join_c _ _ _).mono ?_; rintro e w' ⟨rfl, rfl⟩) | (go_at_call 42; refine (r_min_c _ _).mono ?_; rintro e w' ⟨rfl, rfl⟩) | (go_at_call 43; refine (r_max_c _ _).mono ?_; rintro e w' ⟨rfl, rfl⟩) | (go_at_call 44; refine (r_in_c _ _ _).mono ?_; rintro e w' ⟨rfl, rfl⟩) | (go_at_call 32; refine (r_wrap_c _ _ _).mono ?_; rintro e w' ⟨rfl, rfl⟩) | (go_at_call 46; refine (r_up_c _ _).mono ?_; rintro e w' ⟨rfl, rfl⟩) | (go_at_call 47; refine (r_join_c _ _ _).mono ?_; rintro e w' ⟨rfl, rfl⟩) | (go_at_call 25; refine (name_c _ _).mono ?_; rintro e w' ⟨rfl, hb1⟩) | (go_at_call 48; refine (r_name_c _ _).mono ?_; rintro e w' ⟨rfl, hb2⟩) | (go_at_call 26; refine (read_c _ _).mono ?_; rintro e w' ⟨rfl, hb3⟩) | (go_at_call 49; refine (r_read_c _ _).mono ?_; rintro e w' ⟨rfl, hb4⟩) | (go_at_call 19; refine (awake1_c _).mono ?_; rintro e w' ⟨rfl, rfl⟩))
  go_ret
  have g2 := hb1.trans (hb2.mono hb1.size)
  have g3 := g2.trans (hb3.mono g2.size)
  exact ⟨rfl, g3.trans (hb4.mono g3.size)⟩
def sizeT (t : Int) : Int := maxT t - minT t + 1
theorem size_pos {n : Int} (h : isT n) : 0 < sizeT n ∧ sizeT n ≤ 4294967296 := by
  unfold isT at h
  rcases h with rfl | rfl | rfl | rfl | rfl | rfl <;> decide
theorem wrapT_in {n : Int} (h : isT n) (v : Int) : minT n ≤ wrapT n v ∧ wrapT n v ≤ maxT n := by
  unfold isT at h
  rcases h with rfl | rfl | rfl | rfl | rfl | rfl <;> simp only [minT, maxT, wrapT, if_pos, Int.reduceEq, if_false] <;> omega
theorem wrapT_mult {n : Int} (h : isT n) (v : Int) : sizeT n ∣ wrapT n v - v := by
  unfold isT at h
  rcases h with rfl | rfl | rfl | rfl | rfl | rfl <;> simp only [sizeT, minT, maxT, wrapT, if_pos, Int.reduceEq, if_false, Int.reduceSub, Int.reduceNeg, Int.reduceAdd, Int.sub_zero] <;> omega
theorem wrapT_id {n : Int} (h : isT n) (v : Int) (h0 : minT n ≤ v) (h1 : v ≤ maxT n) : wrapT n v = v := by
  unfold isT at h
  rcases h with rfl | rfl | rfl | rfl | rfl | rfl <;> simp only [minT, maxT, wrapT, if_pos, Int.reduceEq, if_false] at h0 h1 ⊢ <;> omega
theorem wrapT_add {n : Int} (h : isT n) (v j : Int) : wrapT n (v + j * sizeT n) = wrapT n v := by
  unfold isT at h
  rcases h with rfl | rfl | rfl | rfl | rfl | rfl <;> simp only [sizeT, minT, maxT, wrapT, if_pos, Int.reduceEq, if_false] <;> omega
theorem wfb {k : IntKind} {x : Int} (h : (Lit.int k x).wf = true) : k.min ≤ x ∧ x ≤ k.max := by
  simpa [Lit.wf] using h
theorem typWraps_n (n v j : Int) (hn : isT n) (h : -2147483648 ≤ v ∧ v ≤ 2147483647) (hj : -128 ≤ j ∧ j ≤ 127) : 0 < sizeT n ∧ sizeT n ≤ 4294967296 ∧ inT n (wrapT n v) = true ∧ Int.tmod (wrapT n v - v) (sizeT n) = 0 ∧ (inT n v = true → wrapT n v = v) := by
  have sp := size_pos hn
  have wi := wrapT_in hn v
  refine ⟨sp.1, sp.2, by simp [inT, hn, wi], Int.tmod_eq_zero_of_dvd (wrapT_mult hn v), fun hi => ?_⟩
  simp [inT, hn] at hi
  exact wrapT_id hn v hi.1 hi.2
theorem typWraps_c (a0 a1 a2 : Int) (w : World) (h0 : 0 ≤ a0 ∧ a0 ≤ 255) (h1 : -2147483648 ≤ a1 ∧ a1 ≤ 2147483647) (h2 : -128 ≤ a2 ∧ a2 ≤ 127) :
    Calls Try.prog 3 #[.int .u8 a0, .int .i32 a1, .int .i8 a2] w fun e w' => e = .returned (.bool true) ∧ Below w.heap.size w w' := by
  obtain ⟨n, hn, en⟩ : ∃ n, isT n ∧ 1 + a0 % 6 = n := ⟨1 + a0 % 6, by unfold isT; omega, rfl⟩
  have hn6 : 1 ≤ n ∧ n ≤ 6 := by omega
  obtain ⟨f1, f1', f2, f3, f4⟩ := typWraps_n n a1 a2 hn h1 h2
  have hw := wrapT_bd n a1
  have fa := wrapT_add hn a1 a2
  have hs : maxT n - minT n + 1 = sizeT n := rfl
  have hb : -2147483648 ≤ minT n ∧ minT n ≤ 0 ∧ 0 ≤ maxT n ∧ maxT n ≤ 4294967295 := by
    unfold isT at hn
    rcases hn with rfl | rfl | rfl | rfl | rfl | rfl <;> decide
  have hp : -549755813888 ≤ a2 * sizeT n ∧ a2 * sizeT n ≤ 549755813888 := by
    unfold isT at hn
    rcases hn with rfl | rfl | rfl | rfl | rfl | rfl <;> simp only [sizeT, minT, maxT, if_pos, Int.reduceEq, if_false] <;> omega
  obtain ⟨h0a, h0b⟩ := h0
  obtain ⟨h1a, h1b⟩ := h1
  obtain ⟨h2a, h2b⟩ := h2
  obtain ⟨hwa, hwb⟩ := hw
  obtain ⟨hba, hbb, hbc, hbd⟩ := hb
  obtain ⟨hpa, hpb⟩ := hp
  have f5 : decide (0 < sizeT n) = true := decide_eq_true f1
  have f7 : (sizeT n == 0) = false := by simp; omega
  by_cases hi : inT n a1 = true
  · have f6 : (wrapT n a1 == a1) = true := by simpa using f4 hi
    clear hn f4
    go_enter Try.func3, Try.ntmps3
    go_wp2_with (first | (go_at_call 17; refine (min_c _ _).mono ?_; rintro e w' ⟨rfl, rfl⟩) | (go_at_call 16; refine (max_c _ _).mono ?_; rintro e w' ⟨rfl, rfl⟩) | (go_at_call 18; refine (in_c _ _ _).mono ?_; rintro e w' ⟨rfl, rfl⟩) | (go_at_call 15; refine (wrap_c _ _ _).mono ?_; rintro e w' ⟨rfl, rfl⟩) | (go_at_call 19; refine (awake1_c _).mono ?_; rintro e w' ⟨rfl, rfl⟩))
    go_ret
    exact ⟨rfl, Below.refl _ _⟩
  · have f6 : inT n a1 = false := by simpa using hi
    clear hn f4 hi
    go_enter Try.func3, Try.ntmps3
    go_wp2_with (first | (go_at_call 17; refine (min_c _ _).mono ?_; rintro e w' ⟨rfl, rfl⟩) | (go_at_call 16; refine (max_c _ _).mono ?_; rintro e w' ⟨rfl, rfl⟩) | (go_at_call 18; refine (in_c _ _ _).mono ?_; rintro e w' ⟨rfl, rfl⟩) | (go_at_call 15; refine (wrap_c _ _ _).mono ?_; rintro e w' ⟨rfl, rfl⟩) | (go_at_call 19; refine (awake1_c _).mono ?_; rintro e w' ⟨rfl, rfl⟩))
    go_ret
    exact ⟨rfl, Below.refl _ _⟩
theorem typSizes_1 (a0 a1 m : Int) (w : World) (h0a : 0 ≤ a0) (h0b : a0 ≤ 255) (h1a : 0 ≤ a1) (h1b : a1 ≤ 255) (en : 1 + a0 % 6 = 1) (em : 1 + a1 % 6 = m) (hm : isT m) :
    Calls Try.prog 6 #[.int .u8 a0, .int .u8 a1] w fun e w' => e = .returned (.bool true) ∧ Below w.heap.size w w' := by
  have x1 : maxT 1 = 127 := rfl
  have x2 : minT 1 = -128 := rfl
  have e1 : isT 1 := by decide
  by_cases h : m = 6
  · subst h
    have x3 : joinT 1 6 = 6 := rfl
    have x4 : joinT 6 1 = 6 := rfl
    clear hm e1
    go_enter Try.func6, Try.ntmps6
    go_wp2_with (first | (go_at_call 17; refine (min_c _ _).mono ?_; rintro e w' ⟨rfl, rfl⟩) | (go_at_call 16; refine (max_c _ _).mono ?_; rintro e w' ⟨rfl, rfl⟩) | (go_at_call 27; refine (join_c _ _ _).mono ?_; rintro e w' ⟨rfl, rfl⟩) | (go_at_call 19; refine (awake1_c _).mono ?_; rintro e w' ⟨rfl, rfl⟩))
    go_ret
    exact ⟨rfl, (Below.refl _ _).alloc (Nat.le_refl _) _⟩
  · have x3 : joinT 1 m = 5 := by simp [joinT, e1, hm, upT, h]
    have x4 : joinT m 1 = 5 := by simp [joinT, e1, hm, upT, h]
    have x5 := beq_eq_false_iff_ne.mpr h
    clear hm e1 h
    go_enter Try.func6, Try.ntmps6
    go_wp2_with (first | (go_at_call 17; refine (min_c _ _).mono ?_; rintro e w' ⟨rfl, rfl⟩) | (go_at_call 16; refine (max_c _ _).mono ?_; rintro e w' ⟨rfl, rfl⟩) | (go_at_call 27; refine (join_c _ _ _).mono ?_; rintro e w' ⟨rfl, rfl⟩) | (go_at_call 19; refine (awake1_c _).mono ?_; rintro e w' ⟨rfl, rfl⟩))
    go_ret
    exact ⟨rfl, (Below.refl _ _).alloc (Nat.le_refl _) _⟩
theorem typSizes_2 (a0 a1 m : Int) (w : World) (h0a : 0 ≤ a0) (h0b : a0 ≤ 255) (h1a : 0 ≤ a1) (h1b : a1 ≤ 255) (en : 1 + a0 % 6 = 2) (em : 1 + a1 % 6 = m) (hm : isT m) :
    Calls Try.prog 6 #[.int .u8 a0, .int .u8 a1] w fun e w' => e = .returned (.bool true) ∧ Below w.heap.size w w' := by
  have x1 : maxT 2 = 255 := rfl
  have x2 : minT 2 = 0 := rfl
  have e2 : isT 2 := by decide
  by_cases h : m = 6
  · subst h
    have x3 : joinT 2 6 = 6 := rfl
    have x4 : joinT 6 2 = 6 := rfl
    clear hm e2
    go_enter Try.func6, Try.ntmps6
    go_wp2_with (first | (go_at_call 17; refine (min_c _ _).mono ?_; rintro e w' ⟨rfl, rfl⟩) | (go_at_call 16; refine (max_c _ _).mono ?_; rintro e w' ⟨rfl, rfl⟩) | (go_at_call 27; refine (join_c _ _ _).mono ?_; rintro e w' ⟨rfl, rfl⟩) | (go_at_call 19; refine (awake1_c _).mono ?_; rintro e w' ⟨rfl, rfl⟩))
    go_ret
    exact ⟨rfl, (Below.refl _ _).alloc (Nat.le_refl _) _⟩
  · have x3 : joinT 2 m = 5 := by simp [joinT, e2, hm, upT, h]
    have x4 : joinT m 2 = 5 := by simp [joinT, e2, hm, upT, h]
    have x5 := beq_eq_false_iff_ne.mpr h
    clear hm e2 h
    go_enter Try.func6, Try.ntmps6
    go_wp2_with (first | (go_at_call 17; refine (min_c _ _).mono ?_; rintro e w' ⟨rfl, rfl⟩) | (go_at_call 16; refine (max_c _ _).mono ?_; rintro e w' ⟨rfl, rfl⟩) | (go_at_call 27; refine (join_c _ _ _).mono ?_; rintro e w' ⟨rfl, rfl⟩) | (go_at_call 19; refine (awake1_c _).mono ?_; rintro e w' ⟨rfl, rfl⟩))
    go_ret
    exact ⟨rfl, (Below.refl _ _).alloc (Nat.le_refl _) _⟩
theorem typSizes_3 (a0 a1 m : Int) (w : World) (h0a : 0 ≤ a0) (h0b : a0 ≤ 255) (h1a : 0 ≤ a1) (h1b : a1 ≤ 255) (en : 1 + a0 % 6 = 3) (em : 1 + a1 % 6 = m) (hm : isT m) :
    Calls Try.prog 6 #[.int .u8 a0, .int .u8 a1] w fun e w' => e = .returned (.bool true) ∧ Below w.heap.size w w' := by
  have x1 : maxT 3 = 32767 := rfl
  have x2 : minT 3 = -32768 := rfl
  have e3 : isT 3 := by decide
  by_cases h : m = 6
  · subst h
    have x3 : joinT 3 6 = 6 := rfl
    have x4 : joinT 6 3 = 6 := rfl
    clear hm e3
    go_enter Try.func6, Try.ntmps6
    go_wp2_with (first | (go_at_call 17; refine (min_c _ _).mono ?_; rintro e w' ⟨rfl, rfl⟩) | (go_at_call 16; refine (max_c _ _).mono ?_; rintro e w' ⟨rfl, rfl⟩) | (go_at_call 27; refine (join_c _ _ _).mono ?_; rintro e w' ⟨rfl, rfl⟩) | (go_at_call 19; refine (awake1_c _).mono ?_; rintro e w' ⟨rfl, rfl⟩))
    go_ret
    exact ⟨rfl, (Below.refl _ _).alloc (Nat.le_refl _) _⟩
  · have x3 : joinT 3 m = 5 := by simp [joinT, e3, hm, upT, h]
    have x4 : joinT m 3 = 5 := by simp [joinT, e3, hm, upT, h]
    have x5 := beq_eq_false_iff_ne.mpr h
    clear hm e3 h
    go_enter Try.func6, Try.ntmps6
    go_wp2_with (first | (go_at_call 17; refine (min_c _ _).mono ?_; rintro e w' ⟨rfl, rfl⟩) | (go_at_call 16; refine (max_c _ _).mono ?_; rintro e w' ⟨rfl, rfl⟩) | (go_at_call 27; refine (join_c _ _ _).mono ?_; rintro e w' ⟨rfl, rfl⟩) | (go_at_call 19; refine (awake1_c _).mono ?_; rintro e w' ⟨rfl, rfl⟩))
    go_ret
    exact ⟨rfl, (Below.refl _ _).alloc (Nat.le_refl _) _⟩
theorem typSizes_4 (a0 a1 m : Int) (w : World) (h0a : 0 ≤ a0) (h0b : a0 ≤ 255) (h1a : 0 ≤ a1) (h1b : a1 ≤ 255) (en : 1 + a0 % 6 = 4) (em : 1 + a1 % 6 = m) (hm : isT m) :
    Calls Try.prog 6 #[.int .u8 a0, .int .u8 a1] w fun e w' => e = .returned (.bool true) ∧ Below w.heap.size w w' := by
  have x1 : maxT 4 = 65535 := rfl
  have x2 : minT 4 = 0 := rfl
  have e4 : isT 4 := by decide
  by_cases h : m = 6
  · subst h
    have x3 : joinT 4 6 = 6 := rfl
    have x4 : joinT 6 4 = 6 := rfl
    clear hm e4
    go_enter Try.func6, Try.ntmps6
    go_wp2_with (first | (go_at_call 17; refine (min_c _ _).mono ?_; rintro e w' ⟨rfl, rfl⟩) | (go_at_call 16; refine (max_c _ _).mono ?_; rintro e w' ⟨rfl, rfl⟩) | (go_at_call 27; refine (join_c _ _ _).mono ?_; rintro e w' ⟨rfl, rfl⟩) | (go_at_call 19; refine (awake1_c _).mono ?_; rintro e w' ⟨rfl, rfl⟩))
    go_ret
    exact ⟨rfl, (Below.refl _ _).alloc (Nat.le_refl _) _⟩
  · have x3 : joinT 4 m = 5 := by simp [joinT, e4, hm, upT, h]
    have x4 : joinT m 4 = 5 := by simp [joinT, e4, hm, upT, h]
    have x5 := beq_eq_false_iff_ne.mpr h
    clear hm e4 h
    go_enter Try.func6, Try.ntmps6
    go_wp2_with (first | (go_at_call 17; refine (min_c _ _).mono ?_; rintro e w' ⟨rfl, rfl⟩) | (go_at_call 16; refine (max_c _ _).mono ?_; rintro e w' ⟨rfl, rfl⟩) | (go_at_call 27; refine (join_c _ _ _).mono ?_; rintro e w' ⟨rfl, rfl⟩) | (go_at_call 19; refine (awake1_c _).mono ?_; rintro e w' ⟨rfl, rfl⟩))
    go_ret
    exact ⟨rfl, (Below.refl _ _).alloc (Nat.le_refl _) _⟩
theorem typSizes_5 (a0 a1 m : Int) (w : World) (h0a : 0 ≤ a0) (h0b : a0 ≤ 255) (h1a : 0 ≤ a1) (h1b : a1 ≤ 255) (en : 1 + a0 % 6 = 5) (em : 1 + a1 % 6 = m) (hm : isT m) :
    Calls Try.prog 6 #[.int .u8 a0, .int .u8 a1] w fun e w' => e = .returned (.bool true) ∧ Below w.heap.size w w' := by
  have x1 : maxT 5 = 2147483647 := rfl
  have x2 : minT 5 = -2147483648 := rfl
  have e5 : isT 5 := by decide
  by_cases h : m = 6
  · subst h
    have x3 : joinT 5 6 = 6 := rfl
    have x4 : joinT 6 5 = 6 := rfl
    clear hm e5
    go_enter Try.func6, Try.ntmps6
    go_wp2_with (first | (go_at_call 17; refine (min_c _ _).mono ?_; rintro e w' ⟨rfl, rfl⟩) | (go_at_call 16; refine (max_c _ _).mono ?_; rintro e w' ⟨rfl, rfl⟩) | (go_at_call 27; refine (join_c _ _ _).mono ?_; rintro e w' ⟨rfl, rfl⟩) | (go_at_call 19; refine (awake1_c _).mono ?_; rintro e w' ⟨rfl, rfl⟩))
    go_ret
    exact ⟨rfl, (Below.refl _ _).alloc (Nat.le_refl _) _⟩
  · have x3 : joinT 5 m = 5 := by simp [joinT, e5, hm, upT, h]
    have x4 : joinT m 5 = 5 := by simp [joinT, e5, hm, upT, h]
    have x5 := beq_eq_false_iff_ne.mpr h
    clear hm e5 h
    go_enter Try.func6, Try.ntmps6
    go_wp2_with (first | (go_at_call 17; refine (min_c _ _).mono ?_; rintro e w' ⟨rfl, rfl⟩) | (go_at_call 16; refine (max_c _ _).mono ?_; rintro e w' ⟨rfl, rfl⟩) | (go_at_call 27; refine (join_c _ _ _).mono ?_; rintro e w' ⟨rfl, rfl⟩) | (go_at_call 19; refine (awake1_c _).mono ?_; rintro e w' ⟨rfl, rfl⟩))
    go_ret
    exact ⟨rfl, (Below.refl _ _).alloc (Nat.le_refl _) _⟩
theorem typSizes_6 (a0 a1 m : Int) (w : World) (h0a : 0 ≤ a0) (h0b : a0 ≤ 255) (h1a : 0 ≤ a1) (h1b : a1 ≤ 255) (en : 1 + a0 % 6 = 6) (em : 1 + a1 % 6 = m) (hm : isT m) :
    Calls Try.prog 6 #[.int .u8 a0, .int .u8 a1] w fun e w' => e = .returned (.bool true) ∧ Below w.heap.size w w' := by
  have x1 : maxT 6 = 4294967295 := rfl
  have x2 : minT 6 = 0 := rfl
  have e6 : isT 6 := by decide
  have x3 : joinT 6 m = 6 := by simp [joinT, e6, hm]
  have x4 : joinT m 6 = 6 := by
    by_cases h : m = 6
    · subst h; rfl
    · simp [joinT, e6, hm, h, upT]
  clear hm e6
  go_enter Try.func6, Try.ntmps6
  go_wp2_with (first | (go_at_call 17; refine (min_c _ _).mono ?_; rintro e w' ⟨rfl, rfl⟩) | (go_at_call 16; refine (max_c _ _).mono ?_; rintro e w' ⟨rfl, rfl⟩) | (go_at_call 27; refine (join_c _ _ _).mono ?_; rintro e w' ⟨rfl, rfl⟩) | (go_at_call 19; refine (awake1_c _).mono ?_; rintro e w' ⟨rfl, rfl⟩))
  go_ret
  exact ⟨rfl, (Below.refl _ _).alloc (Nat.le_refl _) _⟩
theorem typSizes_c (a0 a1 : Int) (w : World) (h0 : 0 ≤ a0 ∧ a0 ≤ 255) (h1 : 0 ≤ a1 ∧ a1 ≤ 255) :
    Calls Try.prog 6 #[.int .u8 a0, .int .u8 a1] w fun e w' => e = .returned (.bool true) ∧ Below w.heap.size w w' := by
  obtain ⟨m, hm, em⟩ : ∃ m, isT m ∧ 1 + a1 % 6 = m := ⟨1 + a1 % 6, by unfold isT; omega, rfl⟩
  rcases (by omega : 1 + a0 % 6 = 1 ∨ 1 + a0 % 6 = 2 ∨ 1 + a0 % 6 = 3 ∨ 1 + a0 % 6 = 4 ∨ 1 + a0 % 6 = 5 ∨ 1 + a0 % 6 = 6) with h | h | h | h | h | h
  · exact typSizes_1 a0 a1 m w h0.1 h0.2 h1.1 h1.2 h em hm
  · exact typSizes_2 a0 a1 m w h0.1 h0.2 h1.1 h1.2 h em hm
  · exact typSizes_3 a0 a1 m w h0.1 h0.2 h1.1 h1.2 h em hm
  · exact typSizes_4 a0 a1 m w h0.1 h0.2 h1.1 h1.2 h em hm
  · exact typSizes_5 a0 a1 m w h0.1 h0.2 h1.1 h1.2 h em hm
  · exact typSizes_6 a0 a1 m w h0.1 h0.2 h1.1 h1.2 h em hm
end Go.Proofs.Ytjimfbkmfajkcaa.C
