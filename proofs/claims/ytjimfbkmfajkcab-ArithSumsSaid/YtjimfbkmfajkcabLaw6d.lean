/- ArithSums: walk. -/
import Derived.Test.YtjimfbkmfajkcabLaw6
import Derived.Test.YtjimfbkmfajkcabWords
import Derived.BigFrame
import Derived.BigGuard
import Derived.BigRegion
import Derived.Deep.CutBlock
import Derived.Lib.Hide
namespace Go.Proofs.Ytjimfbkmfajkcab.C
open Go.RowKit
set_option linter.unusedSimpArgs false
set_option linter.unusedVariables false
def sumL (x y : Int) (k : Nat) : Int := if k = 0 then x + y else if k = 1 then x - y else x * y
def sumM (x y : Int) (k : Nat) : Int := (if k = 0 then x + y else if k = 1 then x - y else x * y) % 4294967296
theorem mul_bd {x y : Int} (hx : -2147483648 ≤ x ∧ x ≤ 2147483647) (hy : -2147483648 ≤ y ∧ y ≤ 2147483647) : -4611686018427387904 ≤ x * y ∧ x * y ≤ 4611686018427387904 := by
  have h : (x * y).natAbs ≤ 2147483648 * 2147483648 := by
    rw [Int.natAbs_mul]
    exact Nat.mul_le_mul (by omega) (by omega)
  omega
theorem sumL_do {x y : Int} (hx : -2147483648 ≤ x ∧ x ≤ 2147483647) (hy : -2147483648 ≤ y ∧ y ≤ 2147483647) {k : Nat} (hk : k < 3) : doI (8 + (k : Int)) 5 x y = overI 5 (sumL x y k) := by
  have ix := inT5.mpr hx
  have iy := inT5.mpr hy
  have hm := mul_bd hx hy
  have hw : wrap64 (x * y) = x * y := by unfold wrap64; generalize x * y = z at *; omega
  obtain rfl | rfl | rfl : k = 0 ∨ k = 1 ∨ k = 2 := by omega
  · simp [doI, ix, iy, sumL]
  · simp [doI, ix, iy, sumL]
  · simp [doI, ix, iy, sumL, timesI, hw]
theorem sumM_do {x y : Int} (hx : 0 ≤ x ∧ x ≤ 4294967295) (hy : 0 ≤ y ∧ y ≤ 4294967295) {k : Nat} (hk : k < 3) : doI (8 + (k : Int)) 6 x y = (sumM x y k, 0) := by
  have ix := inT6.mpr hx
  have iy := inT6.mpr hy
  obtain rfl | rfl | rfl : k = 0 ∨ k = 1 ∨ k = 2 := by omega
  · simp [doI, ix, iy, sumM, overI, wrapT]
  · simp [doI, ix, iy, sumM, overI, wrapT]
  · simp [doI, ix, iy, sumM, timesI]
theorem sumM_bd (x y : Int) (k : Nat) : 0 ≤ sumM x y k ∧ sumM x y k ≤ 4294967295 := by
  unfold sumM; generalize (if k = 0 then x + y else if k = 1 then x - y else x * y) = z; omega
theorem sumL_bd {x y : Int} (hx : -2147483648 ≤ x ∧ x ≤ 2147483647) (hy : -2147483648 ≤ y ∧ y ≤ 2147483647) (k : Nat) : -4611686018427387904 ≤ sumL x y k ∧ sumL x y k ≤ 4611686018427387904 := by
  have hm := mul_bd hx hy
  unfold sumL
  split
  · omega
  split
  · omega
  · exact hm
set_option maxRecDepth 100000 in
set_option maxHeartbeats 3200000 in
theorem arithSums_c (x y c d : Int) (w : World) (h0 : -2147483648 ≤ x ∧ x ≤ 2147483647) (h1 : -2147483648 ≤ y ∧ y ≤ 2147483647) (h2 : 0 ≤ c ∧ c ≤ 4294967295) (h3 : 0 ≤ d ∧ d ≤ 4294967295) :
    Calls Try.prog 7 #[.int .i32 x, .int .i32 y, .int .u32 c, .int .u32 d] w fun e w' => e = .returned (.bool true) ∧ Below w.heap.size w w' := by
  have FL := fun (k : Nat) (hk : k < 3) => sumL_do h0 h1 hk
  have FM := fun (k : Nat) (hk : k < 3) => sumM_do h2 h3 hk
  have BL := sumL_bd h0 h1
  have BM := sumM_bd c d
  have N1 : doI 6 5 x 0 = overI 5 (-x) := by simp [doI, inT5.mpr h0, show inT 5 0 = true from by decide]
  have hm := mul_bd h0 h1
  obtain ⟨hm1, hm2⟩ := hm
  have HH : Hid ((∀ k : Nat, k < 3 → doI (8 + (k : Int)) 5 x y = overI 5 (sumL x y k)) ∧ (∀ k : Nat, k < 3 → doI (8 + (k : Int)) 6 c d = (sumM c d k, 0)) ∧ (∀ k : Nat, -4611686018427387904 ≤ sumL x y k ∧ sumL x y k ≤ 4611686018427387904) ∧ (∀ k : Nat, 0 ≤ sumM c d k ∧ sumM c d k ≤ 4294967295) ∧ doI 6 5 x 0 = overI 5 (-x)) := Lib.hid ⟨FL, FM, BL, BM, N1⟩
  clear FL FM BL BM N1
  obtain ⟨h0a, h0b⟩ := h0
  obtain ⟨h1a, h1b⟩ := h1
  obtain ⟨h2a, h2b⟩ := h2
  obtain ⟨h3a, h3b⟩ := h3
  go_enter Try.func7, Try.ntmps7
  go_upto_region 5 with fail
  refine at_world (fun W => Hid (Below w.heap.size w W ∧ (∀ k : Nat, k < 3 → W.cell? ⟨w.heap.size, k, none⟩ = some (.int .i64 (sumL x y k))) ∧ (∀ k : Nat, k < 3 → W.cell? ⟨w.heap.size + 1, k, none⟩ = some (.int .u32 (sumM c d k))) ∧ (∀ k : Nat, k < 3 → W.cell? ⟨w.heap.size + 1 + 1, k, none⟩ = some (.int .i64 (8 + (k : Int)))))) ?_ ?_
  · refine Lib.hid ⟨(by repeat' (first | exact Below.refl _ _ | (refine Below.alloc ?_ ?_ _) | (refine Below.setCell ?_ ?_ _) | (refine Below.drew ?_) | (refine below_next ?_ ?_ (by assumption)) | omega | (simp; done) | (simp; omega))), ?_, ?_, ?_⟩
    · intro k hk
      obtain rfl | rfl | rfl : k = 0 ∨ k = 1 ∨ k = 2 := by omega
      all_goals simp [go_sem, sumL]
    · intro k hk
      obtain rfl | rfl | rfl : k = 0 ∨ k = 1 ∨ k = 2 := by omega
      all_goals simp [go_sem, sumM]
    · intro k hk
      obtain rfl | rfl | rfl : k = 0 ∨ k = 1 ∨ k = 2 := by omega
      all_goals simp [go_sem]
  intro W HW
  go_wp2_with fail
  go_loop [14] (fun i => ∃ k : Nat, k ≤ 3 ∧ i = .int .i64 k) (fun i => 3 - (intOf i).toNat)
  case atStart => exact ⟨0, by omega, rfl⟩
  case round =>
    obtain ⟨k, hk, rfl⟩ := hrel
    by_cases hlt : k < 3
    · have c1 := HW.out.2.1 k hlt
      have c2 := HW.out.2.2.1 k hlt
      have c3 := HW.out.2.2.2 k hlt
      have D1 := HH.out.1 k hlt
      have D2 := HH.out.2.1 k hlt
      have bL := HH.out.2.2.1 k
      have bM := HH.out.2.2.2.1 k
      obtain ⟨l, hl⟩ : ∃ l, sumL x y k = l := ⟨_, rfl⟩
      obtain ⟨m, hm⟩ : ∃ l, sumM c d k = l := ⟨_, rfl⟩
      rw [hl] at c1 D1 bL
      rw [hm] at c2 D2 bM
      clear hl hm
      obtain ⟨bL1, bL2⟩ := bL
      obtain ⟨bM1, bM2⟩ := bM
      by_cases f1 : -2147483648 ≤ l
      · have g1 : decide (-2147483648 ≤ l) = true := decide_eq_true f1
        by_cases f2 : l < 2147483648
        · have g2 : decide (l < 2147483648) = true := decide_eq_true f2
          have D3 : doI (8 + (k : Int)) 5 x y = (l, 0) := by rw [D1]; simp [overI, show inT 5 l = true from inT5.mpr (by omega)]
          clear D1 f1 f2
          go_wp2_with (first | (go_at_call 42; refine (do_c _ _ _ _ _).mono ?_; rintro e w' ⟨rfl, rfl⟩) | (go_at_call 45; refine (awake6_c _).mono ?_; rintro e w' ⟨rfl, rfl⟩))
          go_round
          case rel => exact ⟨k + 1, by omega, by go_num⟩
          case measure => simp [intOf]; omega
        · have g2 : decide (l < 2147483648) = false := decide_eq_false f2
          have D3 : doI (8 + (k : Int)) 5 x y = (0, 1) := by
            rw [D1]
            have : inT 5 l = false := by rw [← Bool.not_eq_true, inT5]; omega
            simp [overI, this]
          clear D1 f1 f2
          go_wp2_with (first | (go_at_call 42; refine (do_c _ _ _ _ _).mono ?_; rintro e w' ⟨rfl, rfl⟩) | (go_at_call 45; refine (awake6_c _).mono ?_; rintro e w' ⟨rfl, rfl⟩))
          go_round
          case rel => exact ⟨k + 1, by omega, by go_num⟩
          case measure => simp [intOf]; omega
      · have g1 : decide (-2147483648 ≤ l) = false := decide_eq_false f1
        have D3 : doI (8 + (k : Int)) 5 x y = (0, 1) := by
          rw [D1]
          have : inT 5 l = false := by rw [← Bool.not_eq_true, inT5]; omega
          simp [overI, this]
        clear D1 f1
        go_wp2_with (first | (go_at_call 42; refine (do_c _ _ _ _ _).mono ?_; rintro e w' ⟨rfl, rfl⟩) | (go_at_call 45; refine (awake6_c _).mono ?_; rintro e w' ⟨rfl, rfl⟩))
        go_round
        case rel => exact ⟨k + 1, by omega, by go_num⟩
        case measure => simp [intOf]; omega
    · have hk3 : k = 3 := by omega
      subst hk3
      have N1 := HH.out.2.2.2.2
      by_cases f : x = -2147483648
      · subst f
        have D3 : doI 6 5 (-2147483648) 0 = (0, 1) := by rw [N1]; decide
        clear N1
        go_wp2_with (first | (go_at_call 42; refine (do_c _ _ _ _ _).mono ?_; rintro e w' ⟨rfl, rfl⟩) | (go_at_call 45; refine (awake6_c _).mono ?_; rintro e w' ⟨rfl, rfl⟩))
        go_ret
        exact ⟨rfl, HW.out.1⟩
      · have D3 : doI 6 5 x 0 = (-x, 0) := by rw [N1]; simp [overI, show inT 5 (-x) = true from inT5.mpr (by omega)]
        have f1 : (x != -2147483648) = true := by simpa using f
        have f2 : (x == -2147483648) = false := by simpa using f
        clear N1 f
        go_wp2_with (first | (go_at_call 42; refine (do_c _ _ _ _ _).mono ?_; rintro e w' ⟨rfl, rfl⟩) | (go_at_call 45; refine (awake6_c _).mono ?_; rintro e w' ⟨rfl, rfl⟩))
        go_ret
        exact ⟨rfl, HW.out.1⟩
end Go.Proofs.Ytjimfbkmfajkcab.C
