/- r5.Do, r5.Rel, arith.Rel: the closed forms of XArith. Printed by wip/gen_arith2.py. -/
import Derived.Test.YtlhenpocaagbjaaArith
import Derived.Test.YtlhenpocaagbjaaBits
import Derived.Laws.Bits64
namespace Go.Proofs.Ytlhenpocaagbjaa.C
open Go.RowKit
set_option linter.unusedSimpArgs false
set_option linter.unusedVariables false
theorem sg64 : IntKind.i64.signed = true := rfl
attribute [local go_sem] sg64
theorem wrap6 (v : Int) : wrapT 6 v = v % 4294967296 := by simp [wrapT]
theorem wrap5 (v : Int) : wrapT 5 v = (v + 2147483648) % 4294967296 - 2147483648 := by simp [wrapT]
theorem over5 {v : Int} (h : inT 5 v = true) : overI 5 v = (v, 0) := by simp [overI, h]
theorem over5' {v : Int} (h : inT 5 v = false) : overI 5 v = (0, 1) := by simp [overI, h]
theorem over6 (v : Int) : overI 6 v = (wrapT 6 v, 0) := by simp [overI]
theorem bits6 {op : BinOp} (ho : isBit op) {a b : Int} (ha : inT 6 a = true) (hb : inT 6 b = true) : inT 6 (bits op .i64 a b) = true := by
  rw [bits_u32 ho a b (inT6.mp ha) (inT6.mp hb)]
  exact inT6.mpr (bits_u32_bd op a b)
theorem bits5 {op : BinOp} (ho : isBit op) {a b : Int} (ha : inT 5 a = true) (hb : inT 5 b = true) : inT 5 (bits op .i64 a b) = true := by
  rw [bits_i32 ho a b (inT5.mp ha) (inT5.mp hb)]
  exact inT5.mpr (bits_i32_bd op a b)
theorem wrap6_id {v : Int} (h : inT 6 v = true) : wrapT 6 v = v := by
  rw [wrap6]; have := inT6.mp h; omega
theorem wrap5_in (v : Int) : inT 5 (wrapT 5 v) = true := by rw [inT5, wrap5]; omega
theorem wrap6_in (v : Int) : inT 6 (wrapT 6 v) = true := by rw [inT6, wrap6]; omega
theorem tdiv_bd (a b : Int) : (a.tdiv b).natAbs ≤ a.natAbs := by
  rw [Int.natAbs_tdiv]; exact Nat.div_le_self _ _
theorem tdiv6 {a b : Int} (ha : inT 6 a = true) (hb : inT 6 b = true) : inT 6 (wrap64 (a.tdiv b)) = true ∧ wrap64 (a.tdiv b) = a.tdiv b := by
  have h1 := inT6.mp ha
  have h2 := inT6.mp hb
  have h3 := tdiv_bd a b
  have h4 := Int.tdiv_nonneg h1.1 h2.1
  have h5 : wrap64 (a.tdiv b) = a.tdiv b := by unfold wrap64; omega
  rw [h5]
  exact ⟨inT6.mpr (by omega), rfl⟩
theorem tdiv5 {a b : Int} (ha : inT 5 a = true) (hb : inT 5 b = true) (h0 : b ≠ 0) (h : ¬ (a = -2147483648 ∧ b = -1)) : inT 5 (wrap64 (a.tdiv b)) = true ∧ wrap64 (a.tdiv b) = a.tdiv b := by
  have h1 := inT5.mp ha
  have h3 := tdiv_bd a b
  have h5 : wrap64 (a.tdiv b) = a.tdiv b := by unfold wrap64; omega
  rw [h5]
  refine ⟨inT5.mpr ?_, rfl⟩
  by_cases e : a.tdiv b = 2147483648
  · exfalso
    have e1 := Int.tmod_add_mul_tdiv a b
    rw [e] at e1
    have e3 : (a.tmod b).natAbs = a.natAbs % b.natAbs := Int.natAbs_tmod a b
    have e2 : a.natAbs % b.natAbs < b.natAbs := Nat.mod_lt _ (by omega)
    by_cases k1 : b = 1
    · subst k1; simp at e; omega
    · by_cases k2 : b = -1
      · subst k2; simp at e; omega
      · have e6 : a.natAbs / b.natAbs = 2147483648 := by have := Int.natAbs_tdiv a b; rw [e] at this; exact this.symm
        have e7 : a.natAbs / b.natAbs ≤ a.natAbs / 2 := Nat.div_le_div_left (by omega) (by omega)
        omega
  · omega
theorem tmod_bd (a b : Int) : (a.tmod b).natAbs ≤ a.natAbs := by rw [Int.natAbs_tmod]; exact Nat.mod_le _ _
theorem tmod6 {a b : Int} (ha : inT 6 a = true) : inT 6 (a.tmod b) = true := by
  have h1 := inT6.mp ha
  have h3 := tmod_bd a b
  have h4 := Int.tmod_nonneg b h1.1
  exact inT6.mpr (by omega)
theorem tmod5 {a b : Int} (ha : inT 5 a = true) : inT 5 (a.tmod b) = true := by
  have h1 := inT5.mp ha
  have h3 := tmod_bd a b
  rw [inT5]
  by_cases hs : 0 ≤ a
  · have h4 := Int.tmod_nonneg b hs
    omega
  · have h4 : a.tmod b ≤ 0 := by
      have := Int.tmod_nonneg b (show 0 ≤ -a by omega)
      rw [Int.neg_tmod] at this
      omega
    omega
theorem mul6 (a b : Int) : wrapT 6 (wrap64 (a * b % 18446744073709551616)) = a * b % 4294967296 := by
  rw [wrap6]; generalize a * b = x; unfold wrap64; omega
theorem shl6 (a b : Int) : wrapT 6 (wrap64 (a * b)) = a * b % 4294967296 := by
  rw [wrap6]; generalize a * b = x; unfold wrap64; omega
theorem moved165_c (a b : Int) (w : World) (h5 : -2147483648 ≤ a) (h6 : a ≤ 2147483647) : Calls Try.prog 75 #[.int .i64 16, .int .i64 5, .int .i64 a, .int .i64 b] w fun e w' => e = .returned (.tuple #[.int .i64 (shiftI 16 5 a b).1, .int .i64 (shiftI 16 5 a b).2]) ∧ w = w' := by
  by_cases h0 : b < 0
  · have e0 : shiftI 16 5 a b = (0, 3) := by simp [shiftI, h0]
    have hb : decide (b < 0) = true := decide_eq_true h0
    rw [e0]
    clear e0 h0
    go_enter Try.func75, Try.ntmps75
    go_wp2
    exact bodyPost_ret (v := .tuple #[.int .i64 (((0 : Int), (3 : Int))).1, .int .i64 (((0 : Int), (3 : Int))).2]) (by simp [results, Try.results75, go_sem, *]) rfl ⟨rfl, rfl⟩
  by_cases h1 : 31 < b
  · have e0 : shiftI 16 5 a b = (0, 3) := by simp [shiftI, show 32 ≤ b by omega]
    have hb : decide (b < 0) = false := decide_eq_false h0
    have hc : decide (31 < b) = true := decide_eq_true h1
    rw [e0]
    clear e0 h0 h1
    go_enter Try.func75, Try.ntmps75
    go_wp2
    exact bodyPost_ret (v := .tuple #[.int .i64 (((0 : Int), (3 : Int))).1, .int .i64 (((0 : Int), (3 : Int))).2]) (by simp [results, Try.results75, go_sem, *]) rfl ⟨rfl, rfl⟩
  have k0 : 0 ≤ b := by omega
  have k1 : b ≤ 31 := by omega
  have g1 : ¬ 32 ≤ b := by omega
  have hb : decide (b < 0) = false := decide_eq_false h0
  have hc : decide (31 < b) = false := decide_eq_false h1
  by_cases h2 : a < 0
  · have e0 : shiftI 16 5 a b = (0, 1) := by simp [shiftI, h0, g1, h2]
    have hd : decide (a < 0) = true := decide_eq_true h2
    rw [e0]
    clear e0 h0 h1 g1
    go_enter Try.func75, Try.ntmps75
    go_wp2_with (first | (go_at_call 74; refine (r_in_c _ _ _).mono ?_; rintro e w' ⟨rfl, rfl⟩) | (go_at_call 34; refine (r_wrap_c _ _ _).mono ?_; rintro e w' ⟨rfl, rfl⟩))
    exact bodyPost_ret (v := .tuple #[.int .i64 (((0 : Int), (1 : Int))).1, .int .i64 (((0 : Int), (1 : Int))).2]) (by simp [results, Try.results75, go_sem, *]) rfl ⟨rfl, rfl⟩
  have hd : decide (a < 0) = false := decide_eq_false h2
  by_cases hi : inT 5 (wrap64 (a * 2 ^ b.toNat)) = true
  · have e0 : shiftI 16 5 a b = (wrap64 (a * 2 ^ b.toNat), 0) := by simp [shiftI, h0, g1, h2, overI, hi]
    rw [e0]
    clear e0 h0 h1 g1
    go_enter Try.func75, Try.ntmps75
    go_wp2_with (first | (go_at_call 74; refine (r_in_c _ _ _).mono ?_; rintro e w' ⟨rfl, rfl⟩) | (go_at_call 34; refine (r_wrap_c _ _ _).mono ?_; rintro e w' ⟨rfl, rfl⟩))
    exact bodyPost_ret (v := .tuple #[.int .i64 ((wrap64 (a * 2 ^ b.toNat), (0 : Int))).1, .int .i64 ((wrap64 (a * 2 ^ b.toNat), (0 : Int))).2]) (by simp [results, Try.results75, go_sem, *]) rfl ⟨rfl, rfl⟩
  · rw [Bool.not_eq_true] at hi
    have e0 : shiftI 16 5 a b = (0, 1) := by simp [shiftI, h0, g1, h2, overI, hi]
    rw [e0]
    clear e0 h0 h1 g1
    go_enter Try.func75, Try.ntmps75
    go_wp2_with (first | (go_at_call 74; refine (r_in_c _ _ _).mono ?_; rintro e w' ⟨rfl, rfl⟩) | (go_at_call 34; refine (r_wrap_c _ _ _).mono ?_; rintro e w' ⟨rfl, rfl⟩))
    exact bodyPost_ret (v := .tuple #[.int .i64 (((0 : Int), (1 : Int))).1, .int .i64 (((0 : Int), (1 : Int))).2]) (by simp [results, Try.results75, go_sem, *]) rfl ⟨rfl, rfl⟩
theorem moved166_c (a b : Int) (w : World) (h5 : 0 ≤ a) (h6 : a ≤ 4294967295) : Calls Try.prog 75 #[.int .i64 16, .int .i64 6, .int .i64 a, .int .i64 b] w fun e w' => e = .returned (.tuple #[.int .i64 (shiftI 16 6 a b).1, .int .i64 (shiftI 16 6 a b).2]) ∧ w = w' := by
  by_cases h0 : b < 0
  · have e0 : shiftI 16 6 a b = (0, 3) := by simp [shiftI, h0]
    have hb : decide (b < 0) = true := decide_eq_true h0
    rw [e0]
    clear e0 h0
    go_enter Try.func75, Try.ntmps75
    go_wp2
    exact bodyPost_ret (v := .tuple #[.int .i64 (((0 : Int), (3 : Int))).1, .int .i64 (((0 : Int), (3 : Int))).2]) (by simp [results, Try.results75, go_sem, *]) rfl ⟨rfl, rfl⟩
  by_cases h1 : 31 < b
  · have e0 : shiftI 16 6 a b = (0, 3) := by simp [shiftI, show 32 ≤ b by omega]
    have hb : decide (b < 0) = false := decide_eq_false h0
    have hc : decide (31 < b) = true := decide_eq_true h1
    rw [e0]
    clear e0 h0 h1
    go_enter Try.func75, Try.ntmps75
    go_wp2
    exact bodyPost_ret (v := .tuple #[.int .i64 (((0 : Int), (3 : Int))).1, .int .i64 (((0 : Int), (3 : Int))).2]) (by simp [results, Try.results75, go_sem, *]) rfl ⟨rfl, rfl⟩
  have k0 : 0 ≤ b := by omega
  have k1 : b ≤ 31 := by omega
  have g1 : ¬ 32 ≤ b := by omega
  have hb : decide (b < 0) = false := decide_eq_false h0
  have hc : decide (31 < b) = false := decide_eq_false h1
  · have e0 : shiftI 16 6 a b = (wrapT 6 (wrap64 (a * 2 ^ b.toNat)), 0) := by rw [shl6]; simp [shiftI, h0, g1]
    rw [e0]
    clear e0 h0 h1 g1
    go_enter Try.func75, Try.ntmps75
    go_wp2_with (first | (go_at_call 74; refine (r_in_c _ _ _).mono ?_; rintro e w' ⟨rfl, rfl⟩) | (go_at_call 34; refine (r_wrap_c _ _ _).mono ?_; rintro e w' ⟨rfl, rfl⟩))
    exact bodyPost_ret (v := .tuple #[.int .i64 ((wrapT 6 (wrap64 (a * 2 ^ b.toNat)), (0 : Int))).1, .int .i64 ((wrapT 6 (wrap64 (a * 2 ^ b.toNat)), (0 : Int))).2]) (by simp [results, Try.results75, go_sem, *]) rfl ⟨rfl, rfl⟩
theorem moved175_c (a b : Int) (w : World) (h5 : -2147483648 ≤ a) (h6 : a ≤ 2147483647) : Calls Try.prog 75 #[.int .i64 17, .int .i64 5, .int .i64 a, .int .i64 b] w fun e w' => e = .returned (.tuple #[.int .i64 (shiftI 17 5 a b).1, .int .i64 (shiftI 17 5 a b).2]) ∧ w = w' := by
  by_cases h0 : b < 0
  · have e0 : shiftI 17 5 a b = (0, 3) := by simp [shiftI, h0]
    have hb : decide (b < 0) = true := decide_eq_true h0
    rw [e0]
    clear e0 h0
    go_enter Try.func75, Try.ntmps75
    go_wp2
    exact bodyPost_ret (v := .tuple #[.int .i64 (((0 : Int), (3 : Int))).1, .int .i64 (((0 : Int), (3 : Int))).2]) (by simp [results, Try.results75, go_sem, *]) rfl ⟨rfl, rfl⟩
  by_cases h1 : 31 < b
  · have e0 : shiftI 17 5 a b = (0, 3) := by simp [shiftI, show 32 ≤ b by omega]
    have hb : decide (b < 0) = false := decide_eq_false h0
    have hc : decide (31 < b) = true := decide_eq_true h1
    rw [e0]
    clear e0 h0 h1
    go_enter Try.func75, Try.ntmps75
    go_wp2
    exact bodyPost_ret (v := .tuple #[.int .i64 (((0 : Int), (3 : Int))).1, .int .i64 (((0 : Int), (3 : Int))).2]) (by simp [results, Try.results75, go_sem, *]) rfl ⟨rfl, rfl⟩
  have k0 : 0 ≤ b := by omega
  have k1 : b ≤ 31 := by omega
  have g1 : ¬ 32 ≤ b := by omega
  have hb : decide (b < 0) = false := decide_eq_false h0
  have hc : decide (31 < b) = false := decide_eq_false h1
  · have e0 : shiftI 17 5 a b = (a / 2 ^ b.toNat, 0) := by simp [shiftI, h0, g1]
    rw [e0]
    clear e0 h0 h1 g1
    go_enter Try.func75, Try.ntmps75
    go_wp2
    exact bodyPost_ret (v := .tuple #[.int .i64 ((a / 2 ^ b.toNat, (0 : Int))).1, .int .i64 ((a / 2 ^ b.toNat, (0 : Int))).2]) (by simp [results, Try.results75, go_sem, *]) rfl ⟨rfl, rfl⟩
theorem moved176_c (a b : Int) (w : World) (h5 : 0 ≤ a) (h6 : a ≤ 4294967295) : Calls Try.prog 75 #[.int .i64 17, .int .i64 6, .int .i64 a, .int .i64 b] w fun e w' => e = .returned (.tuple #[.int .i64 (shiftI 17 6 a b).1, .int .i64 (shiftI 17 6 a b).2]) ∧ w = w' := by
  by_cases h0 : b < 0
  · have e0 : shiftI 17 6 a b = (0, 3) := by simp [shiftI, h0]
    have hb : decide (b < 0) = true := decide_eq_true h0
    rw [e0]
    clear e0 h0
    go_enter Try.func75, Try.ntmps75
    go_wp2
    exact bodyPost_ret (v := .tuple #[.int .i64 (((0 : Int), (3 : Int))).1, .int .i64 (((0 : Int), (3 : Int))).2]) (by simp [results, Try.results75, go_sem, *]) rfl ⟨rfl, rfl⟩
  by_cases h1 : 31 < b
  · have e0 : shiftI 17 6 a b = (0, 3) := by simp [shiftI, show 32 ≤ b by omega]
    have hb : decide (b < 0) = false := decide_eq_false h0
    have hc : decide (31 < b) = true := decide_eq_true h1
    rw [e0]
    clear e0 h0 h1
    go_enter Try.func75, Try.ntmps75
    go_wp2
    exact bodyPost_ret (v := .tuple #[.int .i64 (((0 : Int), (3 : Int))).1, .int .i64 (((0 : Int), (3 : Int))).2]) (by simp [results, Try.results75, go_sem, *]) rfl ⟨rfl, rfl⟩
  have k0 : 0 ≤ b := by omega
  have k1 : b ≤ 31 := by omega
  have g1 : ¬ 32 ≤ b := by omega
  have hb : decide (b < 0) = false := decide_eq_false h0
  have hc : decide (31 < b) = false := decide_eq_false h1
  · have e0 : shiftI 17 6 a b = (a / 2 ^ b.toNat, 0) := by simp [shiftI, h0, g1]
    rw [e0]
    clear e0 h0 h1 g1
    go_enter Try.func75, Try.ntmps75
    go_wp2
    exact bodyPost_ret (v := .tuple #[.int .i64 ((a / 2 ^ b.toNat, (0 : Int))).1, .int .i64 ((a / 2 ^ b.toNat, (0 : Int))).2]) (by simp [results, Try.results75, go_sem, *]) rfl ⟨rfl, rfl⟩
theorem rdo65_c (a b : Int) (w : World) (ia : inT 5 a = true) (ib : inT 5 b = true) : Calls Try.prog 61 #[.int .i64 6, .int .i64 5, .int .i64 a, .int .i64 b] w fun e w' => e = .returned (.tuple #[.int .i64 (overI 5 (-a)).1, .int .i64 (overI 5 (-a)).2]) ∧ w = w' := by
  obtain ⟨a1, a2⟩ := inT5.mp ia
  obtain ⟨b1, b2⟩ := inT5.mp ib
  by_cases hi : inT 5 (-a) = true
  · rw [over5 hi]
    go_enter Try.func61, Try.ntmps61
    go_wp2_with (first | (go_at_call 74; refine (r_in_c _ _ _).mono ?_; rintro e w' ⟨rfl, rfl⟩) | (go_at_call 34; refine (r_wrap_c _ _ _).mono ?_; rintro e w' ⟨rfl, rfl⟩))
    exact bodyPost_ret (v := .tuple #[.int .i64 ((-a, (0 : Int))).1, .int .i64 ((-a, (0 : Int))).2]) (by simp [results, Try.results61, go_sem, *]) rfl ⟨rfl, rfl⟩
  · rw [Bool.not_eq_true] at hi
    rw [over5' hi]
    go_enter Try.func61, Try.ntmps61
    go_wp2_with (first | (go_at_call 74; refine (r_in_c _ _ _).mono ?_; rintro e w' ⟨rfl, rfl⟩) | (go_at_call 34; refine (r_wrap_c _ _ _).mono ?_; rintro e w' ⟨rfl, rfl⟩))
    exact bodyPost_ret (v := .tuple #[.int .i64 (((0 : Int), (1 : Int))).1, .int .i64 (((0 : Int), (1 : Int))).2]) (by simp [results, Try.results61, go_sem, *]) rfl ⟨rfl, rfl⟩
theorem rdo75_c (a b : Int) (w : World) (ia : inT 5 a = true) (ib : inT 5 b = true) : Calls Try.prog 61 #[.int .i64 7, .int .i64 5, .int .i64 a, .int .i64 b] w fun e w' => e = .returned (.tuple #[.int .i64 ((wrapT 5 (bits .xor .i64 (-1) a), (0 : Int))).1, .int .i64 ((wrapT 5 (bits .xor .i64 (-1) a), (0 : Int))).2]) ∧ w = w' := by
  obtain ⟨a1, a2⟩ := inT5.mp ia
  obtain ⟨b1, b2⟩ := inT5.mp ib
  have hw := wrap5_in (bits .xor .i64 (-1) a)
  go_enter Try.func61, Try.ntmps61
  go_wp2_with (first | (go_at_call 74; refine (r_in_c _ _ _).mono ?_; rintro e w' ⟨rfl, rfl⟩) | (go_at_call 34; refine (r_wrap_c _ _ _).mono ?_; rintro e w' ⟨rfl, rfl⟩))
  exact bodyPost_ret (v := .tuple #[.int .i64 ((wrapT 5 (bits .xor .i64 (-1) a), (0 : Int))).1, .int .i64 ((wrapT 5 (bits .xor .i64 (-1) a), (0 : Int))).2]) (by simp [results, Try.results61, go_sem, *]) rfl ⟨rfl, rfl⟩
theorem rdo85_c (a b : Int) (w : World) (ia : inT 5 a = true) (ib : inT 5 b = true) : Calls Try.prog 61 #[.int .i64 8, .int .i64 5, .int .i64 a, .int .i64 b] w fun e w' => e = .returned (.tuple #[.int .i64 (overI 5 (a + b)).1, .int .i64 (overI 5 (a + b)).2]) ∧ w = w' := by
  obtain ⟨a1, a2⟩ := inT5.mp ia
  obtain ⟨b1, b2⟩ := inT5.mp ib
  by_cases hi : inT 5 (a + b) = true
  · rw [over5 hi]
    go_enter Try.func61, Try.ntmps61
    go_wp2_with (first | (go_at_call 74; refine (r_in_c _ _ _).mono ?_; rintro e w' ⟨rfl, rfl⟩) | (go_at_call 34; refine (r_wrap_c _ _ _).mono ?_; rintro e w' ⟨rfl, rfl⟩))
    exact bodyPost_ret (v := .tuple #[.int .i64 ((a + b, (0 : Int))).1, .int .i64 ((a + b, (0 : Int))).2]) (by simp [results, Try.results61, go_sem, *]) rfl ⟨rfl, rfl⟩
  · rw [Bool.not_eq_true] at hi
    rw [over5' hi]
    go_enter Try.func61, Try.ntmps61
    go_wp2_with (first | (go_at_call 74; refine (r_in_c _ _ _).mono ?_; rintro e w' ⟨rfl, rfl⟩) | (go_at_call 34; refine (r_wrap_c _ _ _).mono ?_; rintro e w' ⟨rfl, rfl⟩))
    exact bodyPost_ret (v := .tuple #[.int .i64 (((0 : Int), (1 : Int))).1, .int .i64 (((0 : Int), (1 : Int))).2]) (by simp [results, Try.results61, go_sem, *]) rfl ⟨rfl, rfl⟩
theorem rdo95_c (a b : Int) (w : World) (ia : inT 5 a = true) (ib : inT 5 b = true) : Calls Try.prog 61 #[.int .i64 9, .int .i64 5, .int .i64 a, .int .i64 b] w fun e w' => e = .returned (.tuple #[.int .i64 (overI 5 (a - b)).1, .int .i64 (overI 5 (a - b)).2]) ∧ w = w' := by
  obtain ⟨a1, a2⟩ := inT5.mp ia
  obtain ⟨b1, b2⟩ := inT5.mp ib
  by_cases hi : inT 5 (a - b) = true
  · rw [over5 hi]
    go_enter Try.func61, Try.ntmps61
    go_wp2_with (first | (go_at_call 74; refine (r_in_c _ _ _).mono ?_; rintro e w' ⟨rfl, rfl⟩) | (go_at_call 34; refine (r_wrap_c _ _ _).mono ?_; rintro e w' ⟨rfl, rfl⟩))
    exact bodyPost_ret (v := .tuple #[.int .i64 ((a - b, (0 : Int))).1, .int .i64 ((a - b, (0 : Int))).2]) (by simp [results, Try.results61, go_sem, *]) rfl ⟨rfl, rfl⟩
  · rw [Bool.not_eq_true] at hi
    rw [over5' hi]
    go_enter Try.func61, Try.ntmps61
    go_wp2_with (first | (go_at_call 74; refine (r_in_c _ _ _).mono ?_; rintro e w' ⟨rfl, rfl⟩) | (go_at_call 34; refine (r_wrap_c _ _ _).mono ?_; rintro e w' ⟨rfl, rfl⟩))
    exact bodyPost_ret (v := .tuple #[.int .i64 (((0 : Int), (1 : Int))).1, .int .i64 (((0 : Int), (1 : Int))).2]) (by simp [results, Try.results61, go_sem, *]) rfl ⟨rfl, rfl⟩
theorem rdo105_c (a b : Int) (w : World) (ia : inT 5 a = true) (ib : inT 5 b = true) : Calls Try.prog 61 #[.int .i64 10, .int .i64 5, .int .i64 a, .int .i64 b] w fun e w' => e = .returned (.tuple #[.int .i64 (timesI 5 a b).1, .int .i64 (timesI 5 a b).2]) ∧ w = w' := by
  obtain ⟨a1, a2⟩ := inT5.mp ia
  obtain ⟨b1, b2⟩ := inT5.mp ib
  have e9 : timesI 5 a b = overI 5 (wrap64 (a * b)) := by simp [timesI]
  rw [e9]
  clear e9
  by_cases hi : inT 5 (wrap64 (a * b)) = true
  · rw [over5 hi]
    go_enter Try.func61, Try.ntmps61
    go_wp2_with (first | (go_at_call 74; refine (r_in_c _ _ _).mono ?_; rintro e w' ⟨rfl, rfl⟩) | (go_at_call 34; refine (r_wrap_c _ _ _).mono ?_; rintro e w' ⟨rfl, rfl⟩))
    exact bodyPost_ret (v := .tuple #[.int .i64 ((wrap64 (a * b), (0 : Int))).1, .int .i64 ((wrap64 (a * b), (0 : Int))).2]) (by simp [results, Try.results61, go_sem, *]) rfl ⟨rfl, rfl⟩
  · rw [Bool.not_eq_true] at hi
    rw [over5' hi]
    go_enter Try.func61, Try.ntmps61
    go_wp2_with (first | (go_at_call 74; refine (r_in_c _ _ _).mono ?_; rintro e w' ⟨rfl, rfl⟩) | (go_at_call 34; refine (r_wrap_c _ _ _).mono ?_; rintro e w' ⟨rfl, rfl⟩))
    exact bodyPost_ret (v := .tuple #[.int .i64 (((0 : Int), (1 : Int))).1, .int .i64 (((0 : Int), (1 : Int))).2]) (by simp [results, Try.results61, go_sem, *]) rfl ⟨rfl, rfl⟩
theorem rdo115_c (a b : Int) (w : World) (ia : inT 5 a = true) (ib : inT 5 b = true) : Calls Try.prog 61 #[.int .i64 11, .int .i64 5, .int .i64 a, .int .i64 b] w fun e w' => e = .returned (.tuple #[.int .i64 (partI 11 5 a b).1, .int .i64 (partI 11 5 a b).2]) ∧ w = w' := by
  obtain ⟨a1, a2⟩ := inT5.mp ia
  obtain ⟨b1, b2⟩ := inT5.mp ib
  by_cases h : b = 0
  · subst h
    have e0 : partI 11 5 a 0 = (0, 2) := by simp [partI]
    rw [e0]
    clear e0
    go_enter Try.func61, Try.ntmps61
    go_wp2_with (first | (go_at_call 74; refine (r_in_c _ _ _).mono ?_; rintro e w' ⟨rfl, rfl⟩) | (go_at_call 34; refine (r_wrap_c _ _ _).mono ?_; rintro e w' ⟨rfl, rfl⟩))
    exact bodyPost_ret (v := .tuple #[.int .i64 (((0 : Int), (2 : Int))).1, .int .i64 (((0 : Int), (2 : Int))).2]) (by simp [results, Try.results61, go_sem, *]) rfl ⟨rfl, rfl⟩
  have hb : (b == 0) = false := by simpa using h
  by_cases hm : a = -2147483648 ∧ b = -1
  · obtain ⟨rfl, rfl⟩ := hm
    have e0 : partI 11 5 (-2147483648) (-1) = (0, 1) := by decide +kernel
    rw [e0]
    clear e0
    have hi : inT 5 2147483648 = false := by decide
    go_enter Try.func61, Try.ntmps61
    go_wp2_with (first | (go_at_call 74; refine (r_in_c _ _ _).mono ?_; rintro e w' ⟨rfl, rfl⟩) | (go_at_call 34; refine (r_wrap_c _ _ _).mono ?_; rintro e w' ⟨rfl, rfl⟩))
    exact bodyPost_ret (v := .tuple #[.int .i64 (((0 : Int), (1 : Int))).1, .int .i64 (((0 : Int), (1 : Int))).2]) (by simp [results, Try.results61, go_sem, *]) rfl ⟨rfl, rfl⟩
  have hi := (tdiv5 ia ib h hm).1
  have e0 : partI 11 5 a b = (wrap64 (a.tdiv b), 0) := by unfold partI; rw [if_neg h, if_neg (by simpa using hm)]; simp
  rw [e0]
  clear e0
  go_enter Try.func61, Try.ntmps61
  go_wp2_with (first | (go_at_call 74; refine (r_in_c _ _ _).mono ?_; rintro e w' ⟨rfl, rfl⟩) | (go_at_call 34; refine (r_wrap_c _ _ _).mono ?_; rintro e w' ⟨rfl, rfl⟩))
  exact bodyPost_ret (v := .tuple #[.int .i64 ((wrap64 (a.tdiv b), (0 : Int))).1, .int .i64 ((wrap64 (a.tdiv b), (0 : Int))).2]) (by simp [results, Try.results61, go_sem, *]) rfl ⟨rfl, rfl⟩
theorem rdo125_c (a b : Int) (w : World) (ia : inT 5 a = true) (ib : inT 5 b = true) : Calls Try.prog 61 #[.int .i64 12, .int .i64 5, .int .i64 a, .int .i64 b] w fun e w' => e = .returned (.tuple #[.int .i64 (partI 12 5 a b).1, .int .i64 (partI 12 5 a b).2]) ∧ w = w' := by
  obtain ⟨a1, a2⟩ := inT5.mp ia
  obtain ⟨b1, b2⟩ := inT5.mp ib
  by_cases h : b = 0
  · subst h
    have e0 : partI 12 5 a 0 = (0, 2) := by simp [partI]
    rw [e0]
    clear e0
    go_enter Try.func61, Try.ntmps61
    go_wp2_with (first | (go_at_call 74; refine (r_in_c _ _ _).mono ?_; rintro e w' ⟨rfl, rfl⟩) | (go_at_call 34; refine (r_wrap_c _ _ _).mono ?_; rintro e w' ⟨rfl, rfl⟩))
    exact bodyPost_ret (v := .tuple #[.int .i64 (((0 : Int), (2 : Int))).1, .int .i64 (((0 : Int), (2 : Int))).2]) (by simp [results, Try.results61, go_sem, *]) rfl ⟨rfl, rfl⟩
  have hb : (b == 0) = false := by simpa using h
  by_cases hm : a = -2147483648 ∧ b = -1
  · obtain ⟨rfl, rfl⟩ := hm
    have e0 : partI 12 5 (-2147483648) (-1) = (0, 1) := by decide +kernel
    rw [e0]
    clear e0
    have hi : inT 5 2147483648 = false := by decide
    go_enter Try.func61, Try.ntmps61
    go_wp2_with (first | (go_at_call 74; refine (r_in_c _ _ _).mono ?_; rintro e w' ⟨rfl, rfl⟩) | (go_at_call 34; refine (r_wrap_c _ _ _).mono ?_; rintro e w' ⟨rfl, rfl⟩))
    exact bodyPost_ret (v := .tuple #[.int .i64 (((0 : Int), (1 : Int))).1, .int .i64 (((0 : Int), (1 : Int))).2]) (by simp [results, Try.results61, go_sem, *]) rfl ⟨rfl, rfl⟩
  have hi := (tdiv5 ia ib h hm).1
  have hj := tmod5 (b := b) ia
  have e0 : partI 12 5 a b = (a.tmod b, 0) := by unfold partI; rw [if_neg h, if_neg (by simpa using hm)]; simp
  rw [e0]
  clear e0
  go_enter Try.func61, Try.ntmps61
  go_wp2_with (first | (go_at_call 74; refine (r_in_c _ _ _).mono ?_; rintro e w' ⟨rfl, rfl⟩) | (go_at_call 34; refine (r_wrap_c _ _ _).mono ?_; rintro e w' ⟨rfl, rfl⟩))
  exact bodyPost_ret (v := .tuple #[.int .i64 ((a.tmod b, (0 : Int))).1, .int .i64 ((a.tmod b, (0 : Int))).2]) (by simp [results, Try.results61, go_sem, *]) rfl ⟨rfl, rfl⟩
theorem rdo135_c (a b : Int) (w : World) (ia : inT 5 a = true) (ib : inT 5 b = true) : Calls Try.prog 61 #[.int .i64 13, .int .i64 5, .int .i64 a, .int .i64 b] w fun e w' => e = .returned (.tuple #[.int .i64 ((bits .and .i64 a b, (0 : Int))).1, .int .i64 ((bits .and .i64 a b, (0 : Int))).2]) ∧ w = w' := by
  obtain ⟨a1, a2⟩ := inT5.mp ia
  obtain ⟨b1, b2⟩ := inT5.mp ib
  have hi : inT 5 (bits .and .i64 a b) = true := bits5 (.inl rfl) ia ib
  go_enter Try.func61, Try.ntmps61
  go_wp2_with (first | (go_at_call 74; refine (r_in_c _ _ _).mono ?_; rintro e w' ⟨rfl, rfl⟩) | (go_at_call 34; refine (r_wrap_c _ _ _).mono ?_; rintro e w' ⟨rfl, rfl⟩))
  exact bodyPost_ret (v := .tuple #[.int .i64 ((bits .and .i64 a b, (0 : Int))).1, .int .i64 ((bits .and .i64 a b, (0 : Int))).2]) (by simp [results, Try.results61, go_sem, *]) rfl ⟨rfl, rfl⟩
theorem rdo145_c (a b : Int) (w : World) (ia : inT 5 a = true) (ib : inT 5 b = true) : Calls Try.prog 61 #[.int .i64 14, .int .i64 5, .int .i64 a, .int .i64 b] w fun e w' => e = .returned (.tuple #[.int .i64 ((bits .or .i64 a b, (0 : Int))).1, .int .i64 ((bits .or .i64 a b, (0 : Int))).2]) ∧ w = w' := by
  obtain ⟨a1, a2⟩ := inT5.mp ia
  obtain ⟨b1, b2⟩ := inT5.mp ib
  have hi : inT 5 (bits .or .i64 a b) = true := bits5 (.inr (.inl rfl)) ia ib
  go_enter Try.func61, Try.ntmps61
  go_wp2_with (first | (go_at_call 74; refine (r_in_c _ _ _).mono ?_; rintro e w' ⟨rfl, rfl⟩) | (go_at_call 34; refine (r_wrap_c _ _ _).mono ?_; rintro e w' ⟨rfl, rfl⟩))
  exact bodyPost_ret (v := .tuple #[.int .i64 ((bits .or .i64 a b, (0 : Int))).1, .int .i64 ((bits .or .i64 a b, (0 : Int))).2]) (by simp [results, Try.results61, go_sem, *]) rfl ⟨rfl, rfl⟩
theorem rdo155_c (a b : Int) (w : World) (ia : inT 5 a = true) (ib : inT 5 b = true) : Calls Try.prog 61 #[.int .i64 15, .int .i64 5, .int .i64 a, .int .i64 b] w fun e w' => e = .returned (.tuple #[.int .i64 ((bits .xor .i64 a b, (0 : Int))).1, .int .i64 ((bits .xor .i64 a b, (0 : Int))).2]) ∧ w = w' := by
  obtain ⟨a1, a2⟩ := inT5.mp ia
  obtain ⟨b1, b2⟩ := inT5.mp ib
  have hi : inT 5 (bits .xor .i64 a b) = true := bits5 (.inr (.inr rfl)) ia ib
  go_enter Try.func61, Try.ntmps61
  go_wp2_with (first | (go_at_call 74; refine (r_in_c _ _ _).mono ?_; rintro e w' ⟨rfl, rfl⟩) | (go_at_call 34; refine (r_wrap_c _ _ _).mono ?_; rintro e w' ⟨rfl, rfl⟩))
  exact bodyPost_ret (v := .tuple #[.int .i64 ((bits .xor .i64 a b, (0 : Int))).1, .int .i64 ((bits .xor .i64 a b, (0 : Int))).2]) (by simp [results, Try.results61, go_sem, *]) rfl ⟨rfl, rfl⟩
theorem rdo165_c (a b : Int) (w : World) (ia : inT 5 a = true) : Calls Try.prog 61 #[.int .i64 16, .int .i64 5, .int .i64 a, .int .i64 b] w fun e w' => e = .returned (.tuple #[.int .i64 (shiftI 16 5 a b).1, .int .i64 (shiftI 16 5 a b).2]) ∧ w = w' := by
  obtain ⟨a1, a2⟩ := inT5.mp ia
  go_enter Try.func61, Try.ntmps61
  go_wp2_with (first | (go_at_call 74; refine (r_in_c _ _ _).mono ?_; rintro e w' ⟨rfl, rfl⟩) | (go_at_call 75; refine (moved165_c _ _ _ (by assumption) (by assumption)).mono ?_; rintro e w' ⟨rfl, rfl⟩))
  exact bodyPost_ret (v := .tuple #[.int .i64 (shiftI 16 5 a b).1, .int .i64 (shiftI 16 5 a b).2]) (by simp [results, Try.results61, go_sem, *]) rfl ⟨rfl, rfl⟩
theorem rdo175_c (a b : Int) (w : World) (ia : inT 5 a = true) : Calls Try.prog 61 #[.int .i64 17, .int .i64 5, .int .i64 a, .int .i64 b] w fun e w' => e = .returned (.tuple #[.int .i64 (shiftI 17 5 a b).1, .int .i64 (shiftI 17 5 a b).2]) ∧ w = w' := by
  obtain ⟨a1, a2⟩ := inT5.mp ia
  go_enter Try.func61, Try.ntmps61
  go_wp2_with (first | (go_at_call 74; refine (r_in_c _ _ _).mono ?_; rintro e w' ⟨rfl, rfl⟩) | (go_at_call 75; refine (moved175_c _ _ _ (by assumption) (by assumption)).mono ?_; rintro e w' ⟨rfl, rfl⟩))
  exact bodyPost_ret (v := .tuple #[.int .i64 (shiftI 17 5 a b).1, .int .i64 (shiftI 17 5 a b).2]) (by simp [results, Try.results61, go_sem, *]) rfl ⟨rfl, rfl⟩
theorem rdo66_c (a b : Int) (w : World) (ia : inT 6 a = true) (ib : inT 6 b = true) : Calls Try.prog 61 #[.int .i64 6, .int .i64 6, .int .i64 a, .int .i64 b] w fun e w' => e = .returned (.tuple #[.int .i64 (overI 6 (-a)).1, .int .i64 (overI 6 (-a)).2]) ∧ w = w' := by
  obtain ⟨a1, a2⟩ := inT6.mp ia
  obtain ⟨b1, b2⟩ := inT6.mp ib
  rw [over6]
  go_enter Try.func61, Try.ntmps61
  go_wp2_with (first | (go_at_call 74; refine (r_in_c _ _ _).mono ?_; rintro e w' ⟨rfl, rfl⟩) | (go_at_call 34; refine (r_wrap_c _ _ _).mono ?_; rintro e w' ⟨rfl, rfl⟩))
  exact bodyPost_ret (v := .tuple #[.int .i64 ((wrapT 6 (-a), (0 : Int))).1, .int .i64 ((wrapT 6 (-a), (0 : Int))).2]) (by simp [results, Try.results61, go_sem, *]) rfl ⟨rfl, rfl⟩
theorem rdo76_c (a b : Int) (w : World) (ia : inT 6 a = true) (ib : inT 6 b = true) : Calls Try.prog 61 #[.int .i64 7, .int .i64 6, .int .i64 a, .int .i64 b] w fun e w' => e = .returned (.tuple #[.int .i64 ((wrapT 6 (bits .xor .i64 (-1) a), (0 : Int))).1, .int .i64 ((wrapT 6 (bits .xor .i64 (-1) a), (0 : Int))).2]) ∧ w = w' := by
  obtain ⟨a1, a2⟩ := inT6.mp ia
  obtain ⟨b1, b2⟩ := inT6.mp ib
  have hw := wrap6_id (wrap6_in (bits .xor .i64 (-1) a))
  go_enter Try.func61, Try.ntmps61
  go_wp2_with (first | (go_at_call 74; refine (r_in_c _ _ _).mono ?_; rintro e w' ⟨rfl, rfl⟩) | (go_at_call 34; refine (r_wrap_c _ _ _).mono ?_; rintro e w' ⟨rfl, rfl⟩))
  exact bodyPost_ret (v := .tuple #[.int .i64 ((wrapT 6 (bits .xor .i64 (-1) a), (0 : Int))).1, .int .i64 ((wrapT 6 (bits .xor .i64 (-1) a), (0 : Int))).2]) (by simp [results, Try.results61, go_sem, *]) rfl ⟨rfl, rfl⟩
theorem rdo86_c (a b : Int) (w : World) (ia : inT 6 a = true) (ib : inT 6 b = true) : Calls Try.prog 61 #[.int .i64 8, .int .i64 6, .int .i64 a, .int .i64 b] w fun e w' => e = .returned (.tuple #[.int .i64 (overI 6 (a + b)).1, .int .i64 (overI 6 (a + b)).2]) ∧ w = w' := by
  obtain ⟨a1, a2⟩ := inT6.mp ia
  obtain ⟨b1, b2⟩ := inT6.mp ib
  rw [over6]
  go_enter Try.func61, Try.ntmps61
  go_wp2_with (first | (go_at_call 74; refine (r_in_c _ _ _).mono ?_; rintro e w' ⟨rfl, rfl⟩) | (go_at_call 34; refine (r_wrap_c _ _ _).mono ?_; rintro e w' ⟨rfl, rfl⟩))
  exact bodyPost_ret (v := .tuple #[.int .i64 ((wrapT 6 (a + b), (0 : Int))).1, .int .i64 ((wrapT 6 (a + b), (0 : Int))).2]) (by simp [results, Try.results61, go_sem, *]) rfl ⟨rfl, rfl⟩
theorem rdo96_c (a b : Int) (w : World) (ia : inT 6 a = true) (ib : inT 6 b = true) : Calls Try.prog 61 #[.int .i64 9, .int .i64 6, .int .i64 a, .int .i64 b] w fun e w' => e = .returned (.tuple #[.int .i64 (overI 6 (a - b)).1, .int .i64 (overI 6 (a - b)).2]) ∧ w = w' := by
  obtain ⟨a1, a2⟩ := inT6.mp ia
  obtain ⟨b1, b2⟩ := inT6.mp ib
  rw [over6]
  go_enter Try.func61, Try.ntmps61
  go_wp2_with (first | (go_at_call 74; refine (r_in_c _ _ _).mono ?_; rintro e w' ⟨rfl, rfl⟩) | (go_at_call 34; refine (r_wrap_c _ _ _).mono ?_; rintro e w' ⟨rfl, rfl⟩))
  exact bodyPost_ret (v := .tuple #[.int .i64 ((wrapT 6 (a - b), (0 : Int))).1, .int .i64 ((wrapT 6 (a - b), (0 : Int))).2]) (by simp [results, Try.results61, go_sem, *]) rfl ⟨rfl, rfl⟩
theorem rdo106_c (a b : Int) (w : World) (ia : inT 6 a = true) (ib : inT 6 b = true) : Calls Try.prog 61 #[.int .i64 10, .int .i64 6, .int .i64 a, .int .i64 b] w fun e w' => e = .returned (.tuple #[.int .i64 (timesI 6 a b).1, .int .i64 (timesI 6 a b).2]) ∧ w = w' := by
  obtain ⟨a1, a2⟩ := inT6.mp ia
  obtain ⟨b1, b2⟩ := inT6.mp ib
  have e0 : timesI 6 a b = (wrapT 6 (wrap64 (IntKind.u64.wrap (a * b))), 0) := by rw [IntKind.wrap_u64, mul6]; simp [timesI]
  rw [e0]
  clear e0
  go_enter Try.func61, Try.ntmps61
  go_wp2_with (first | (go_at_call 74; refine (r_in_c _ _ _).mono ?_; rintro e w' ⟨rfl, rfl⟩) | (go_at_call 34; refine (r_wrap_c _ _ _).mono ?_; rintro e w' ⟨rfl, rfl⟩))
  exact bodyPost_ret (v := .tuple #[.int .i64 ((wrapT 6 (wrap64 (IntKind.u64.wrap (a * b))), (0 : Int))).1, .int .i64 ((wrapT 6 (wrap64 (IntKind.u64.wrap (a * b))), (0 : Int))).2]) (by simp [results, Try.results61, go_sem, *]) rfl ⟨rfl, rfl⟩
theorem rdo116_c (a b : Int) (w : World) (ia : inT 6 a = true) (ib : inT 6 b = true) : Calls Try.prog 61 #[.int .i64 11, .int .i64 6, .int .i64 a, .int .i64 b] w fun e w' => e = .returned (.tuple #[.int .i64 (partI 11 6 a b).1, .int .i64 (partI 11 6 a b).2]) ∧ w = w' := by
  obtain ⟨a1, a2⟩ := inT6.mp ia
  obtain ⟨b1, b2⟩ := inT6.mp ib
  by_cases h : b = 0
  · subst h
    have e0 : partI 11 6 a 0 = (0, 2) := by simp [partI]
    rw [e0]
    clear e0
    go_enter Try.func61, Try.ntmps61
    go_wp2_with (first | (go_at_call 74; refine (r_in_c _ _ _).mono ?_; rintro e w' ⟨rfl, rfl⟩) | (go_at_call 34; refine (r_wrap_c _ _ _).mono ?_; rintro e w' ⟨rfl, rfl⟩))
    exact bodyPost_ret (v := .tuple #[.int .i64 (((0 : Int), (2 : Int))).1, .int .i64 (((0 : Int), (2 : Int))).2]) (by simp [results, Try.results61, go_sem, *]) rfl ⟨rfl, rfl⟩
  have hb : (b == 0) = false := by simpa using h
  have hi := (tdiv6 ia ib).1
  clear a1 a2 b1 b2
  have hw := wrap6_id hi
  have e0 : partI 11 6 a b = (wrap64 (a.tdiv b), 0) := by simp [partI, h]
  rw [e0]
  clear e0
  go_enter Try.func61, Try.ntmps61
  go_wp2_with (first | (go_at_call 74; refine (r_in_c _ _ _).mono ?_; rintro e w' ⟨rfl, rfl⟩) | (go_at_call 34; refine (r_wrap_c _ _ _).mono ?_; rintro e w' ⟨rfl, rfl⟩))
  exact bodyPost_ret (v := .tuple #[.int .i64 ((wrap64 (a.tdiv b), (0 : Int))).1, .int .i64 ((wrap64 (a.tdiv b), (0 : Int))).2]) (by simp [results, Try.results61, go_sem, *]) rfl ⟨rfl, rfl⟩
theorem rdo126_c (a b : Int) (w : World) (ia : inT 6 a = true) (ib : inT 6 b = true) : Calls Try.prog 61 #[.int .i64 12, .int .i64 6, .int .i64 a, .int .i64 b] w fun e w' => e = .returned (.tuple #[.int .i64 (partI 12 6 a b).1, .int .i64 (partI 12 6 a b).2]) ∧ w = w' := by
  obtain ⟨a1, a2⟩ := inT6.mp ia
  obtain ⟨b1, b2⟩ := inT6.mp ib
  by_cases h : b = 0
  · subst h
    have e0 : partI 12 6 a 0 = (0, 2) := by simp [partI]
    rw [e0]
    clear e0
    go_enter Try.func61, Try.ntmps61
    go_wp2_with (first | (go_at_call 74; refine (r_in_c _ _ _).mono ?_; rintro e w' ⟨rfl, rfl⟩) | (go_at_call 34; refine (r_wrap_c _ _ _).mono ?_; rintro e w' ⟨rfl, rfl⟩))
    exact bodyPost_ret (v := .tuple #[.int .i64 (((0 : Int), (2 : Int))).1, .int .i64 (((0 : Int), (2 : Int))).2]) (by simp [results, Try.results61, go_sem, *]) rfl ⟨rfl, rfl⟩
  have hb : (b == 0) = false := by simpa using h
  have hi := (tdiv6 ia ib).1
  clear a1 a2 b1 b2
  have hw := wrap6_id (tmod6 (b := b) ia)
  have e0 : partI 12 6 a b = (a.tmod b, 0) := by simp [partI, h]
  rw [e0]
  clear e0
  go_enter Try.func61, Try.ntmps61
  go_wp2_with (first | (go_at_call 74; refine (r_in_c _ _ _).mono ?_; rintro e w' ⟨rfl, rfl⟩) | (go_at_call 34; refine (r_wrap_c _ _ _).mono ?_; rintro e w' ⟨rfl, rfl⟩))
  exact bodyPost_ret (v := .tuple #[.int .i64 ((a.tmod b, (0 : Int))).1, .int .i64 ((a.tmod b, (0 : Int))).2]) (by simp [results, Try.results61, go_sem, *]) rfl ⟨rfl, rfl⟩
theorem rdo136_c (a b : Int) (w : World) (ia : inT 6 a = true) (ib : inT 6 b = true) : Calls Try.prog 61 #[.int .i64 13, .int .i64 6, .int .i64 a, .int .i64 b] w fun e w' => e = .returned (.tuple #[.int .i64 ((bits .and .i64 a b, (0 : Int))).1, .int .i64 ((bits .and .i64 a b, (0 : Int))).2]) ∧ w = w' := by
  obtain ⟨a1, a2⟩ := inT6.mp ia
  obtain ⟨b1, b2⟩ := inT6.mp ib
  have hw := wrap6_id (bits6 (.inl rfl) ia ib : inT 6 (bits .and .i64 a b) = true)
  go_enter Try.func61, Try.ntmps61
  go_wp2_with (first | (go_at_call 74; refine (r_in_c _ _ _).mono ?_; rintro e w' ⟨rfl, rfl⟩) | (go_at_call 34; refine (r_wrap_c _ _ _).mono ?_; rintro e w' ⟨rfl, rfl⟩))
  exact bodyPost_ret (v := .tuple #[.int .i64 ((bits .and .i64 a b, (0 : Int))).1, .int .i64 ((bits .and .i64 a b, (0 : Int))).2]) (by simp [results, Try.results61, go_sem, *]) rfl ⟨rfl, rfl⟩
theorem rdo146_c (a b : Int) (w : World) (ia : inT 6 a = true) (ib : inT 6 b = true) : Calls Try.prog 61 #[.int .i64 14, .int .i64 6, .int .i64 a, .int .i64 b] w fun e w' => e = .returned (.tuple #[.int .i64 ((bits .or .i64 a b, (0 : Int))).1, .int .i64 ((bits .or .i64 a b, (0 : Int))).2]) ∧ w = w' := by
  obtain ⟨a1, a2⟩ := inT6.mp ia
  obtain ⟨b1, b2⟩ := inT6.mp ib
  have hw := wrap6_id (bits6 (.inr (.inl rfl)) ia ib : inT 6 (bits .or .i64 a b) = true)
  go_enter Try.func61, Try.ntmps61
  go_wp2_with (first | (go_at_call 74; refine (r_in_c _ _ _).mono ?_; rintro e w' ⟨rfl, rfl⟩) | (go_at_call 34; refine (r_wrap_c _ _ _).mono ?_; rintro e w' ⟨rfl, rfl⟩))
  exact bodyPost_ret (v := .tuple #[.int .i64 ((bits .or .i64 a b, (0 : Int))).1, .int .i64 ((bits .or .i64 a b, (0 : Int))).2]) (by simp [results, Try.results61, go_sem, *]) rfl ⟨rfl, rfl⟩
theorem rdo156_c (a b : Int) (w : World) (ia : inT 6 a = true) (ib : inT 6 b = true) : Calls Try.prog 61 #[.int .i64 15, .int .i64 6, .int .i64 a, .int .i64 b] w fun e w' => e = .returned (.tuple #[.int .i64 ((bits .xor .i64 a b, (0 : Int))).1, .int .i64 ((bits .xor .i64 a b, (0 : Int))).2]) ∧ w = w' := by
  obtain ⟨a1, a2⟩ := inT6.mp ia
  obtain ⟨b1, b2⟩ := inT6.mp ib
  have hw := wrap6_id (bits6 (.inr (.inr rfl)) ia ib : inT 6 (bits .xor .i64 a b) = true)
  go_enter Try.func61, Try.ntmps61
  go_wp2_with (first | (go_at_call 74; refine (r_in_c _ _ _).mono ?_; rintro e w' ⟨rfl, rfl⟩) | (go_at_call 34; refine (r_wrap_c _ _ _).mono ?_; rintro e w' ⟨rfl, rfl⟩))
  exact bodyPost_ret (v := .tuple #[.int .i64 ((bits .xor .i64 a b, (0 : Int))).1, .int .i64 ((bits .xor .i64 a b, (0 : Int))).2]) (by simp [results, Try.results61, go_sem, *]) rfl ⟨rfl, rfl⟩
theorem rdo166_c (a b : Int) (w : World) (ia : inT 6 a = true) : Calls Try.prog 61 #[.int .i64 16, .int .i64 6, .int .i64 a, .int .i64 b] w fun e w' => e = .returned (.tuple #[.int .i64 (shiftI 16 6 a b).1, .int .i64 (shiftI 16 6 a b).2]) ∧ w = w' := by
  obtain ⟨a1, a2⟩ := inT6.mp ia
  go_enter Try.func61, Try.ntmps61
  go_wp2_with (first | (go_at_call 74; refine (r_in_c _ _ _).mono ?_; rintro e w' ⟨rfl, rfl⟩) | (go_at_call 75; refine (moved166_c _ _ _ (by assumption) (by assumption)).mono ?_; rintro e w' ⟨rfl, rfl⟩))
  exact bodyPost_ret (v := .tuple #[.int .i64 (shiftI 16 6 a b).1, .int .i64 (shiftI 16 6 a b).2]) (by simp [results, Try.results61, go_sem, *]) rfl ⟨rfl, rfl⟩
theorem rdo176_c (a b : Int) (w : World) (ia : inT 6 a = true) : Calls Try.prog 61 #[.int .i64 17, .int .i64 6, .int .i64 a, .int .i64 b] w fun e w' => e = .returned (.tuple #[.int .i64 (shiftI 17 6 a b).1, .int .i64 (shiftI 17 6 a b).2]) ∧ w = w' := by
  obtain ⟨a1, a2⟩ := inT6.mp ia
  go_enter Try.func61, Try.ntmps61
  go_wp2_with (first | (go_at_call 74; refine (r_in_c _ _ _).mono ?_; rintro e w' ⟨rfl, rfl⟩) | (go_at_call 75; refine (moved176_c _ _ _ (by assumption) (by assumption)).mono ?_; rintro e w' ⟨rfl, rfl⟩))
  exact bodyPost_ret (v := .tuple #[.int .i64 (shiftI 17 6 a b).1, .int .i64 (shiftI 17 6 a b).2]) (by simp [results, Try.results61, go_sem, *]) rfl ⟨rfl, rfl⟩
theorem rdoZ_c (k t a b : Int) (w : World) (h5 : (t == 5) = false) (h6 : (t == 6) = false) (h7 : (t != 5) = true) (h8 : (t != 6) = true) (h9 : ¬ t = 5) (h10 : ¬ t = 6) : Calls Try.prog 61 #[.int .i64 k, .int .i64 t, .int .i64 a, .int .i64 b] w fun e w' => e = .returned (.tuple #[.int .i64 (((0 : Int), (0 : Int))).1, .int .i64 (((0 : Int), (0 : Int))).2]) ∧ w = w' := by
  by_cases k16 : k = 16
  · subst k16
    go_enter Try.func61, Try.ntmps61
    go_wp2
    exact bodyPost_ret (v := .tuple #[.int .i64 (((0 : Int), (0 : Int))).1, .int .i64 (((0 : Int), (0 : Int))).2]) (by simp [results, Try.results61, go_sem, *]) rfl ⟨rfl, rfl⟩
  · have k16 : (k == 16) = false := by simpa using k16
    go_enter Try.func61, Try.ntmps61
    go_wp2
    exact bodyPost_ret (v := .tuple #[.int .i64 (((0 : Int), (0 : Int))).1, .int .i64 (((0 : Int), (0 : Int))).2]) (by simp [results, Try.results61, go_sem, *]) rfl ⟨rfl, rfl⟩
theorem rdoA5_c (k a b : Int) (w : World) (ia : inT 5 a = false) : Calls Try.prog 61 #[.int .i64 k, .int .i64 5, .int .i64 a, .int .i64 b] w fun e w' => e = .returned (.tuple #[.int .i64 (((0 : Int), (0 : Int))).1, .int .i64 (((0 : Int), (0 : Int))).2]) ∧ w = w' := by
  by_cases k16 : k = 16
  · subst k16
    go_enter Try.func61, Try.ntmps61
    go_wp2_with ((go_at_call 74; refine (r_in_c _ _ _).mono ?_; rintro e w' ⟨rfl, rfl⟩))
    exact bodyPost_ret (v := .tuple #[.int .i64 (((0 : Int), (0 : Int))).1, .int .i64 (((0 : Int), (0 : Int))).2]) (by simp [results, Try.results61, go_sem, *]) rfl ⟨rfl, rfl⟩
  · have k16 : (k == 16) = false := by simpa using k16
    go_enter Try.func61, Try.ntmps61
    go_wp2_with ((go_at_call 74; refine (r_in_c _ _ _).mono ?_; rintro e w' ⟨rfl, rfl⟩))
    exact bodyPost_ret (v := .tuple #[.int .i64 (((0 : Int), (0 : Int))).1, .int .i64 (((0 : Int), (0 : Int))).2]) (by simp [results, Try.results61, go_sem, *]) rfl ⟨rfl, rfl⟩
theorem rdoB5_c (k a b : Int) (w : World) (h16 : (k == 16) = false) (h17 : (k == 17) = false) (ia : inT 5 a = true) (ib : inT 5 b = false) : Calls Try.prog 61 #[.int .i64 k, .int .i64 5, .int .i64 a, .int .i64 b] w fun e w' => e = .returned (.tuple #[.int .i64 (((0 : Int), (0 : Int))).1, .int .i64 (((0 : Int), (0 : Int))).2]) ∧ w = w' := by
  go_enter Try.func61, Try.ntmps61
  go_wp2_with ((go_at_call 74; refine (r_in_c _ _ _).mono ?_; rintro e w' ⟨rfl, rfl⟩))
  exact bodyPost_ret (v := .tuple #[.int .i64 (((0 : Int), (0 : Int))).1, .int .i64 (((0 : Int), (0 : Int))).2]) (by simp [results, Try.results61, go_sem, *]) rfl ⟨rfl, rfl⟩
theorem rdoN5_c (k a b : Int) (w : World) (h6 : (k == 6) = false) (h7 : (k == 7) = false) (h8 : (k == 8) = false) (h9 : (k == 9) = false) (h10 : (k == 10) = false) (h11 : (k == 11) = false) (h12 : (k == 12) = false) (h13 : (k == 13) = false) (h14 : (k == 14) = false) (h15 : (k == 15) = false) (h16 : (k == 16) = false) (h17 : (k == 17) = false) (ia : inT 5 a = true) (ib : inT 5 b = true) : Calls Try.prog 61 #[.int .i64 k, .int .i64 5, .int .i64 a, .int .i64 b] w fun e w' => e = .returned (.tuple #[.int .i64 (((0 : Int), (0 : Int))).1, .int .i64 (((0 : Int), (0 : Int))).2]) ∧ w = w' := by
  have z5 : inT 5 0 = true := by decide
  have z6 : wrapT 6 0 = 0 := by decide
  go_enter Try.func61, Try.ntmps61
  go_wp2_with (first | (go_at_call 74; refine (r_in_c _ _ _).mono ?_; rintro e w' ⟨rfl, rfl⟩) | (go_at_call 34; refine (r_wrap_c _ _ _).mono ?_; rintro e w' ⟨rfl, rfl⟩))
  exact bodyPost_ret (v := .tuple #[.int .i64 (((0 : Int), (0 : Int))).1, .int .i64 (((0 : Int), (0 : Int))).2]) (by simp [results, Try.results61, go_sem, *]) rfl ⟨rfl, rfl⟩
theorem rdoA6_c (k a b : Int) (w : World) (ia : inT 6 a = false) : Calls Try.prog 61 #[.int .i64 k, .int .i64 6, .int .i64 a, .int .i64 b] w fun e w' => e = .returned (.tuple #[.int .i64 (((0 : Int), (0 : Int))).1, .int .i64 (((0 : Int), (0 : Int))).2]) ∧ w = w' := by
  by_cases k16 : k = 16
  · subst k16
    go_enter Try.func61, Try.ntmps61
    go_wp2_with ((go_at_call 74; refine (r_in_c _ _ _).mono ?_; rintro e w' ⟨rfl, rfl⟩))
    exact bodyPost_ret (v := .tuple #[.int .i64 (((0 : Int), (0 : Int))).1, .int .i64 (((0 : Int), (0 : Int))).2]) (by simp [results, Try.results61, go_sem, *]) rfl ⟨rfl, rfl⟩
  · have k16 : (k == 16) = false := by simpa using k16
    go_enter Try.func61, Try.ntmps61
    go_wp2_with ((go_at_call 74; refine (r_in_c _ _ _).mono ?_; rintro e w' ⟨rfl, rfl⟩))
    exact bodyPost_ret (v := .tuple #[.int .i64 (((0 : Int), (0 : Int))).1, .int .i64 (((0 : Int), (0 : Int))).2]) (by simp [results, Try.results61, go_sem, *]) rfl ⟨rfl, rfl⟩
theorem rdoB6_c (k a b : Int) (w : World) (h16 : (k == 16) = false) (h17 : (k == 17) = false) (ia : inT 6 a = true) (ib : inT 6 b = false) : Calls Try.prog 61 #[.int .i64 k, .int .i64 6, .int .i64 a, .int .i64 b] w fun e w' => e = .returned (.tuple #[.int .i64 (((0 : Int), (0 : Int))).1, .int .i64 (((0 : Int), (0 : Int))).2]) ∧ w = w' := by
  go_enter Try.func61, Try.ntmps61
  go_wp2_with ((go_at_call 74; refine (r_in_c _ _ _).mono ?_; rintro e w' ⟨rfl, rfl⟩))
  exact bodyPost_ret (v := .tuple #[.int .i64 (((0 : Int), (0 : Int))).1, .int .i64 (((0 : Int), (0 : Int))).2]) (by simp [results, Try.results61, go_sem, *]) rfl ⟨rfl, rfl⟩
theorem rdoN6_c (k a b : Int) (w : World) (h6 : (k == 6) = false) (h7 : (k == 7) = false) (h8 : (k == 8) = false) (h9 : (k == 9) = false) (h10 : (k == 10) = false) (h11 : (k == 11) = false) (h12 : (k == 12) = false) (h13 : (k == 13) = false) (h14 : (k == 14) = false) (h15 : (k == 15) = false) (h16 : (k == 16) = false) (h17 : (k == 17) = false) (ia : inT 6 a = true) (ib : inT 6 b = true) : Calls Try.prog 61 #[.int .i64 k, .int .i64 6, .int .i64 a, .int .i64 b] w fun e w' => e = .returned (.tuple #[.int .i64 (((0 : Int), (0 : Int))).1, .int .i64 (((0 : Int), (0 : Int))).2]) ∧ w = w' := by
  have z5 : inT 5 0 = true := by decide
  have z6 : wrapT 6 0 = 0 := by decide
  go_enter Try.func61, Try.ntmps61
  go_wp2_with (first | (go_at_call 74; refine (r_in_c _ _ _).mono ?_; rintro e w' ⟨rfl, rfl⟩) | (go_at_call 34; refine (r_wrap_c _ _ _).mono ?_; rintro e w' ⟨rfl, rfl⟩))
  exact bodyPost_ret (v := .tuple #[.int .i64 (((0 : Int), (0 : Int))).1, .int .i64 (((0 : Int), (0 : Int))).2]) (by simp [results, Try.results61, go_sem, *]) rfl ⟨rfl, rfl⟩
theorem r_do_c (k t a b : Int) (w : World) : Calls Try.prog 61 #[.int .i64 k, .int .i64 t, .int .i64 a, .int .i64 b] w fun e w' => e = .returned (.tuple #[.int .i64 (doI k t a b).1, .int .i64 (doI k t a b).2]) ∧ w = w' := by
  by_cases h5 : t = 5 ∨ t = 6
  rotate_left
  · rw [show doI k t a b = (0, 0) from by simp [doI, h5]]
    exact rdoZ_c k t a b w (by simp; omega) (by simp; omega) (by simp; omega) (by simp; omega) (by omega) (by omega)
  rcases h5 with rfl | rfl
  · by_cases ia : inT 5 a = true
    rotate_left
    · rw [Bool.not_eq_true] at ia
      rw [show doI k 5 a b = (0, 0) from by simp [doI, ia]]
      exact rdoA5_c k a b w ia
    by_cases k16 : k = 16
    · subst k16
      rw [show doI 16 5 a b = shiftI 16 5 a b from by simp [doI, ia]]
      exact rdo165_c a b w ia
    by_cases k17 : k = 17
    · subst k17
      rw [show doI 17 5 a b = shiftI 17 5 a b from by simp [doI, ia]]
      exact rdo175_c a b w ia
    by_cases ib : inT 5 b = true
    rotate_left
    · rw [Bool.not_eq_true] at ib
      rw [show doI k 5 a b = (0, 0) from by simp [doI, ia, ib, k16, k17]]
      exact rdoB5_c k a b w (by simpa using k16) (by simpa using k17) ia ib
    by_cases k6 : k = 6
    · subst k6
      rw [show doI 6 5 a b = overI 5 (-a) from by simp [doI, ia, ib]]
      exact rdo65_c a b w ia ib
    by_cases k7 : k = 7
    · subst k7
      rw [show doI 7 5 a b = (wrapT 5 (bits .xor .i64 (-1) a), (0 : Int)) from by simp [doI, ia, ib]]
      exact rdo75_c a b w ia ib
    by_cases k8 : k = 8
    · subst k8
      rw [show doI 8 5 a b = overI 5 (a + b) from by simp [doI, ia, ib]]
      exact rdo85_c a b w ia ib
    by_cases k9 : k = 9
    · subst k9
      rw [show doI 9 5 a b = overI 5 (a - b) from by simp [doI, ia, ib]]
      exact rdo95_c a b w ia ib
    by_cases k10 : k = 10
    · subst k10
      rw [show doI 10 5 a b = timesI 5 a b from by simp [doI, ia, ib]]
      exact rdo105_c a b w ia ib
    by_cases k11 : k = 11
    · subst k11
      rw [show doI 11 5 a b = partI 11 5 a b from by simp [doI, ia, ib]]
      exact rdo115_c a b w ia ib
    by_cases k12 : k = 12
    · subst k12
      rw [show doI 12 5 a b = partI 12 5 a b from by simp [doI, ia, ib]]
      exact rdo125_c a b w ia ib
    by_cases k13 : k = 13
    · subst k13
      rw [show doI 13 5 a b = (bits .and .i64 a b, (0 : Int)) from by simp [doI, ia, ib]]
      exact rdo135_c a b w ia ib
    by_cases k14 : k = 14
    · subst k14
      rw [show doI 14 5 a b = (bits .or .i64 a b, (0 : Int)) from by simp [doI, ia, ib]]
      exact rdo145_c a b w ia ib
    by_cases k15 : k = 15
    · subst k15
      rw [show doI 15 5 a b = (bits .xor .i64 a b, (0 : Int)) from by simp [doI, ia, ib]]
      exact rdo155_c a b w ia ib
    rw [show doI k 5 a b = (0, 0) from by simp [doI, k6, k7, k8, k9, k10, k11, k12, k13, k14, k15, k16, k17]]
    exact rdoN5_c k a b w (by simpa using k6) (by simpa using k7) (by simpa using k8) (by simpa using k9) (by simpa using k10) (by simpa using k11) (by simpa using k12) (by simpa using k13) (by simpa using k14) (by simpa using k15) (by simpa using k16) (by simpa using k17) ia ib
  · by_cases ia : inT 6 a = true
    rotate_left
    · rw [Bool.not_eq_true] at ia
      rw [show doI k 6 a b = (0, 0) from by simp [doI, ia]]
      exact rdoA6_c k a b w ia
    by_cases k16 : k = 16
    · subst k16
      rw [show doI 16 6 a b = shiftI 16 6 a b from by simp [doI, ia]]
      exact rdo166_c a b w ia
    by_cases k17 : k = 17
    · subst k17
      rw [show doI 17 6 a b = shiftI 17 6 a b from by simp [doI, ia]]
      exact rdo176_c a b w ia
    by_cases ib : inT 6 b = true
    rotate_left
    · rw [Bool.not_eq_true] at ib
      rw [show doI k 6 a b = (0, 0) from by simp [doI, ia, ib, k16, k17]]
      exact rdoB6_c k a b w (by simpa using k16) (by simpa using k17) ia ib
    by_cases k6 : k = 6
    · subst k6
      rw [show doI 6 6 a b = overI 6 (-a) from by simp [doI, ia, ib]]
      exact rdo66_c a b w ia ib
    by_cases k7 : k = 7
    · subst k7
      rw [show doI 7 6 a b = (wrapT 6 (bits .xor .i64 (-1) a), (0 : Int)) from by simp [doI, ia, ib]]
      exact rdo76_c a b w ia ib
    by_cases k8 : k = 8
    · subst k8
      rw [show doI 8 6 a b = overI 6 (a + b) from by simp [doI, ia, ib]]
      exact rdo86_c a b w ia ib
    by_cases k9 : k = 9
    · subst k9
      rw [show doI 9 6 a b = overI 6 (a - b) from by simp [doI, ia, ib]]
      exact rdo96_c a b w ia ib
    by_cases k10 : k = 10
    · subst k10
      rw [show doI 10 6 a b = timesI 6 a b from by simp [doI, ia, ib]]
      exact rdo106_c a b w ia ib
    by_cases k11 : k = 11
    · subst k11
      rw [show doI 11 6 a b = partI 11 6 a b from by simp [doI, ia, ib]]
      exact rdo116_c a b w ia ib
    by_cases k12 : k = 12
    · subst k12
      rw [show doI 12 6 a b = partI 12 6 a b from by simp [doI, ia, ib]]
      exact rdo126_c a b w ia ib
    by_cases k13 : k = 13
    · subst k13
      rw [show doI 13 6 a b = (bits .and .i64 a b, (0 : Int)) from by simp [doI, ia, ib]]
      exact rdo136_c a b w ia ib
    by_cases k14 : k = 14
    · subst k14
      rw [show doI 14 6 a b = (bits .or .i64 a b, (0 : Int)) from by simp [doI, ia, ib]]
      exact rdo146_c a b w ia ib
    by_cases k15 : k = 15
    · subst k15
      rw [show doI 15 6 a b = (bits .xor .i64 a b, (0 : Int)) from by simp [doI, ia, ib]]
      exact rdo156_c a b w ia ib
    rw [show doI k 6 a b = (0, 0) from by simp [doI, k6, k7, k8, k9, k10, k11, k12, k13, k14, k15, k16, k17]]
    exact rdoN6_c k a b w (by simpa using k6) (by simpa using k7) (by simpa using k8) (by simpa using k9) (by simpa using k10) (by simpa using k11) (by simpa using k12) (by simpa using k13) (by simpa using k14) (by simpa using k15) (by simpa using k16) (by simpa using k17) ia ib
def relI (r a b : Int) : Bool := if r = 1 then (a == b) else if r = 2 then (a != b) else if r = 3 then decide (a < b) else if r = 4 then decide (a ≤ b) else if r = 5 then decide (b < a) else if r = 6 then decide (b ≤ a) else false
theorem rel_c (r a b : Int) (w : World) : Calls Try.prog 30 #[.int .i64 r, .int .i64 a, .int .i64 b] w fun e w' => e = .returned (.bool (relI r a b)) ∧ w = w' := by
  by_cases h1 : r = 1
  · subst h1
    rw [show relI 1 a b = (a == b) from by simp [relI]]
    go_enter Try.func30, Try.ntmps30
    go_wp2
    go_ret
    exact ⟨by simp [bne], rfl⟩
  by_cases h2 : r = 2
  · subst h2
    rw [show relI 2 a b = (a != b) from by simp [relI]]
    go_enter Try.func30, Try.ntmps30
    go_wp2
    go_ret
    exact ⟨by simp [bne], rfl⟩
  by_cases h3 : r = 3
  · subst h3
    rw [show relI 3 a b = decide (a < b) from by simp [relI]]
    go_enter Try.func30, Try.ntmps30
    go_wp2
    go_ret
    exact ⟨by simp [bne], rfl⟩
  by_cases h4 : r = 4
  · subst h4
    rw [show relI 4 a b = decide (a ≤ b) from by simp [relI]]
    go_enter Try.func30, Try.ntmps30
    go_wp2
    go_ret
    exact ⟨by simp [bne], rfl⟩
  by_cases h5 : r = 5
  · subst h5
    rw [show relI 5 a b = decide (b < a) from by simp [relI]]
    go_enter Try.func30, Try.ntmps30
    go_wp2
    go_ret
    exact ⟨by simp [bne], rfl⟩
  by_cases h6 : r = 6
  · subst h6
    rw [show relI 6 a b = decide (b ≤ a) from by simp [relI]]
    go_enter Try.func30, Try.ntmps30
    go_wp2
    go_ret
    exact ⟨by simp [bne], rfl⟩
  rw [show relI r a b = false from by simp [relI, h1, h2, h3, h4, h5, h6]]
  have k1 : (r == 1) = false := by simpa using h1
  have k2 : (r == 2) = false := by simpa using h2
  have k3 : (r == 3) = false := by simpa using h3
  have k4 : (r == 4) = false := by simpa using h4
  have k5 : (r == 5) = false := by simpa using h5
  have k6 : (r == 6) = false := by simpa using h6
  go_enter Try.func30, Try.ntmps30
  go_wp2
  go_ret
  exact ⟨rfl, rfl⟩
theorem r_rel_c (r a b : Int) (w : World) : Calls Try.prog 33 #[.int .i64 r, .int .i64 a, .int .i64 b] w fun e w' => e = .returned (.bool (relI r a b)) ∧ w = w' := by
  by_cases h1 : r = 1
  · subst h1
    rw [show relI 1 a b = (a == b) from by simp [relI]]
    go_enter Try.func33, Try.ntmps33
    go_wp2
    go_ret
    exact ⟨by simp [bne], rfl⟩
  by_cases h2 : r = 2
  · subst h2
    rw [show relI 2 a b = (a != b) from by simp [relI]]
    go_enter Try.func33, Try.ntmps33
    go_wp2
    go_ret
    exact ⟨by simp [bne], rfl⟩
  by_cases h3 : r = 3
  · subst h3
    rw [show relI 3 a b = decide (a < b) from by simp [relI]]
    go_enter Try.func33, Try.ntmps33
    go_wp2
    go_ret
    exact ⟨by simp [bne], rfl⟩
  by_cases h4 : r = 4
  · subst h4
    rw [show relI 4 a b = decide (a ≤ b) from by simp [relI]]
    go_enter Try.func33, Try.ntmps33
    go_wp2
    go_ret
    exact ⟨by simp [bne], rfl⟩
  by_cases h5 : r = 5
  · subst h5
    rw [show relI 5 a b = decide (b < a) from by simp [relI]]
    go_enter Try.func33, Try.ntmps33
    go_wp2
    go_ret
    exact ⟨by simp [bne], rfl⟩
  by_cases h6 : r = 6
  · subst h6
    rw [show relI 6 a b = decide (b ≤ a) from by simp [relI]]
    go_enter Try.func33, Try.ntmps33
    go_wp2
    go_ret
    exact ⟨by simp [bne], rfl⟩
  rw [show relI r a b = false from by simp [relI, h1, h2, h3, h4, h5, h6]]
  have k1 : (r == 1) = false := by simpa using h1
  have k2 : (r == 2) = false := by simpa using h2
  have k3 : (r == 3) = false := by simpa using h3
  have k4 : (r == 4) = false := by simpa using h4
  have k5 : (r == 5) = false := by simpa using h5
  have k6 : (r == 6) = false := by simpa using h6
  go_enter Try.func33, Try.ntmps33
  go_wp2
  go_ret
  exact ⟨rfl, rfl⟩
end Go.Proofs.Ytlhenpocaagbjaa.C
