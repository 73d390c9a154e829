/- l17.awake, l17.Fine: walks. -/
import Derived.Test.YtkeofaklkbjnkaaCellTop
import Derived.Test.YtkeofaklkbjnkaaFine
namespace Go.Proofs.Ytkeofaklkbjnkaa.C
open Go.RowKit
set_option linter.unusedSimpArgs false
set_option linter.unusedVariables false
attribute [local go_sem] fieldItv0 fieldItv1
set_option maxRecDepth 100000 in
set_option maxHeartbeats 3200000 in
theorem awake17_c (w : World) : Calls Try.prog 10 #[] w fun e w' => e = .returned (.bool true) ∧ Below w.heap.size w w' := by
  have T : ∀ W : World, Calls Try.prog 6 #[.int .i64 2, .int .i64 2] W (NewI 2 (fun _ => (0, 255)) W) := fun W => top_c 2 2 W
  have RD : ∀ W : World, Calls Try.prog 9 #[.slice none 0 0, .agg #[.int .i64 0, .int .i64 3]] W fun e w' => e = .returned (.agg #[.int .i64 1, .int .i64 0]) ∧ Below W.heap.size W w' := fun W => read_c none 0 0 (fun _ => (0, 0)) 0 3 W ⟨by omega, fun h => absurd h (by omega)⟩
  go_enter Try.func10, Try.ntmps10
  go_upto_region 2 with (go_at_call 6; refine (T _).mono ?_; rintro e w1 ⟨A, c, rfl, ho, hb⟩; have HO := Lib.hid (And.intro ho hb); clear ho hb)
  obtain ⟨g, rfl, _⟩ := HO.out.1.at (k := 1) (by omega)
  go_wp2_with (first | (go_at_call 9; refine (RD _).mono ?_; rintro e w2 ⟨rfl, hb2⟩; have H2 := Lib.hid hb2; clear hb2) | (go_at_call 8; refine (riEmpty_x _ _ _).mono ?_; rintro e w3 ⟨rfl, rfl⟩; have H3 : Hid (Below w.heap.size w (w2.alloc (.cells #[.int .i64 1, .int .i64 0] 26)) ∧ OI (w2.alloc (.cells #[.int .i64 1, .int .i64 0] 26)) w.heap.size (some ⟨g, 0, none⟩) 2 c (fun _ => (0, 255))) := Lib.hid ⟨below_next HO.out.2 HO.out.2.size (H2.out.alloc H2.out.size _), HO.out.1.below (H2.out.alloc H2.out.size _)⟩; obtain ⟨w4, hw4⟩ : ∃ w4, w2.alloc (.cells #[.int .i64 1, .int .i64 0] 26) = w4 := ⟨_, rfl⟩; rw [hw4] at H3; simp only [hw4]; obtain ⟨g', e', _, _, c0, c1, _⟩ := H3.out.2.at (k := 1) (by omega); injection e' with e'; injection e' with e'; subst e'; simp at c0 c1))
  go_ret
  exact ⟨rfl, H3.out.1⟩
def fineC (r : Nat → Int × Int) (n : Nat) : Bool := decide (n ≤ 30 ∧ ∀ i, i < n → fineI (r i).1 (r i).2 = true)
set_option maxRecDepth 100000 in
set_option maxHeartbeats 3200000 in
theorem fine17_c (A : Option Addr) (n cap : Nat) (r : Nat → Int × Int) (w : World) (hr : CR w A n r) :
    Calls Try.prog 13 #[.slice A n cap] w fun e w' => e = .returned (.bool (fineC r n)) ∧ Below w.heap.size w w' := by
  have hmax := hr.1
  have HR := Lib.hid hr
  clear hr
  go_enter Try.func13, Try.ntmps13
  go_wp2_with fail
  go_loopw [3] (fun v wr => ∃ k : Nat, k ≤ n ∧ k ≤ 40 ∧ v = .int .i64 k ∧ Hid (∀ i, i < k → fineI (r i).1 (r i).2 = true) ∧ Below w.heap.size w wr) (fun v _ => n - (intOf v).toNat)
  case atStart => exact ⟨0, by omega, by omega, rfl, Lib.hid (fun i hi => absurd hi (by omega)), Below.refl _ _⟩
  case round =>
    obtain ⟨k, hk, hk4, rfl, HF, hb⟩ := hrel
    have HB := Lib.hid hb
    clear hb
    by_cases hlt : k < n
    · have hk0 : (0 : Int) ≤ (k : Int) := by omega
      have hk1 : (k : Int) < (n : Int) := by omega
      have g1 : decide ((k : Int) < (n : Int)) = true := decide_eq_true hk1
      by_cases h40 : k < 40
      · have g2 : decide ((k : Int) < 40) = true := decide_eq_true (by omega)
        have hk40 : (k : Int) < 40 := by omega
        obtain ⟨ad, rfl, _, c0, c1⟩ := (HR.out.below HB.out).at hlt
        obtain ⟨p, hp⟩ : ∃ p, r k = p := ⟨_, rfl⟩
        rw [hp] at c0 c1
        obtain ⟨b, hb⟩ : ∃ b, fineI p.1 p.2 = b := ⟨_, rfl⟩
        have LF := fun W => fine_c p.1 p.2 W
        simp only [hb] at LF
        cases b
        · have e0 : Hid (fineC r n = false) := Lib.hid (decide_eq_false (fun h => by have := h.2 k hlt; rw [hp, hb] at this; cases this))
          clear hb hp
          go_wp2_with (go_at_call 14; refine (LF _).mono ?_; rintro e w2 ⟨rfl, hb2⟩)
          go_ret
          exact ⟨by rw [e0.out]; rfl, below_next HB.out HB.out.size hb2⟩
        · have HF2 : Hid (∀ i, i < k + 1 → fineI (r i).1 (r i).2 = true) := Lib.hid (fun i hi => by
            by_cases q : i = k
            · subst q; rw [hp, hb]
            · exact HF.out i (by omega))
          clear hb hp
          go_wp2_with (go_at_call 14; refine (LF _).mono ?_; rintro e w2 ⟨rfl, hb2⟩)
          all_goals exact ⟨⟨k + 1, by omega, by omega, by go_num, HF2, below_next HB.out HB.out.size hb2⟩, by simp [intOf]; omega⟩
      · have g2 : decide ((k : Int) < 40) = false := decide_eq_false (by omega)
        have g3 : decide ((n : Int) ≤ 30) = false := decide_eq_false (by omega)
        have e0 : Hid (fineC r n = false) := Lib.hid (decide_eq_false (fun h => by omega))
        clear hk hk4 hlt h40
        go_wp2_with fail
        go_ret
        exact ⟨by rw [e0.out]; rfl, HB.out⟩
    · obtain rfl : k = n := by omega
      by_cases h30 : k ≤ 30
      · have g3 : decide ((k : Int) ≤ 30) = true := decide_eq_true (by omega)
        have e0 : Hid (fineC r k = true) := Lib.hid (decide_eq_true ⟨h30, HF.out⟩)
        clear hk hk4 hlt
        go_wp2_with fail
        go_ret
        exact ⟨by rw [e0.out]; rfl, HB.out⟩
      · have g3 : decide ((k : Int) ≤ 30) = false := decide_eq_false (by omega)
        have e0 : Hid (fineC r k = false) := Lib.hid (decide_eq_false (fun h => h30 h.1))
        clear hk hk4 hlt h30
        go_wp2_with fail
        go_ret
        exact ⟨by rw [e0.out]; rfl, HB.out⟩
end Go.Proofs.Ytkeofaklkbjnkaa.C
