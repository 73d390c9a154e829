/- l14.Fine: walk. -/
import Derived.Test.YtkeofaklkbjnkaaItv2
import Derived.BigFrame
import Derived.BigGuard
import Derived.Lib.Hide
namespace Go.Proofs.Ytkeofaklkbjnkaa.C
open Go.RowKit
set_option linter.unusedSimpArgs false
set_option linter.unusedVariables false
attribute [local go_sem] fieldItv0 fieldItv1
def fineI (a b : Int) : Bool := decide (-1152921504606846976 ≤ a ∧ a ≤ 1152921504606846976 ∧ -1152921504606846976 ≤ b ∧ b ≤ 1152921504606846976)
theorem fine_c (a b : Int) (w : World) : Calls Try.prog 14 #[.agg #[.int .i64 a, .int .i64 b]] w fun e w' => e = .returned (.bool (fineI a b)) ∧ Below w.heap.size w w' := by
  by_cases h1 : -1152921504606846976 ≤ a
  · have g1 : decide (-1152921504606846976 ≤ a) = true := decide_eq_true h1
    by_cases h2 : a ≤ 1152921504606846976
    · have g2 : decide (a ≤ 1152921504606846976) = true := decide_eq_true h2
      by_cases h3 : -1152921504606846976 ≤ b
      · have g3 : decide (-1152921504606846976 ≤ b) = true := decide_eq_true h3
        have e0 : fineI a b = decide (b ≤ 1152921504606846976) := by simp [fineI, h1, h2, h3]
        rw [e0]
        clear e0 h1 h2 h3
        go_enter Try.func14, Try.ntmps14
        go_wp2
        go_ret
        exact ⟨rfl, (by repeat' (first | exact Below.refl _ _ | (refine Below.alloc ?_ ?_ _) | (refine Below.setCell ?_ ?_ _) | (refine Below.drew ?_) | (refine below_next ?_ ?_ (by assumption)) | omega | (simp; done) | (simp; omega)))⟩
      · have g3 : decide (-1152921504606846976 ≤ b) = false := decide_eq_false h3
        have e0 : fineI a b = false := by simp [fineI, h3]
        rw [e0]
        clear e0 h1 h2 h3
        go_enter Try.func14, Try.ntmps14
        go_wp2
        go_ret
        exact ⟨rfl, (by repeat' (first | exact Below.refl _ _ | (refine Below.alloc ?_ ?_ _) | (refine Below.setCell ?_ ?_ _) | (refine Below.drew ?_) | (refine below_next ?_ ?_ (by assumption)) | omega | (simp; done) | (simp; omega)))⟩
    · have g2 : decide (a ≤ 1152921504606846976) = false := decide_eq_false h2
      have e0 : fineI a b = false := by simp [fineI, h2]
      rw [e0]
      clear e0 h1 h2
      go_enter Try.func14, Try.ntmps14
      go_wp2
      go_ret
      exact ⟨rfl, (by repeat' (first | exact Below.refl _ _ | (refine Below.alloc ?_ ?_ _) | (refine Below.setCell ?_ ?_ _) | (refine Below.drew ?_) | (refine below_next ?_ ?_ (by assumption)) | omega | (simp; done) | (simp; omega)))⟩
  · have g1 : decide (-1152921504606846976 ≤ a) = false := decide_eq_false h1
    have e0 : fineI a b = false := by simp [fineI, h1]
    rw [e0]
    clear e0 h1
    go_enter Try.func14, Try.ntmps14
    go_wp2
    go_ret
    exact ⟨rfl, (by repeat' (first | exact Below.refl _ _ | (refine Below.alloc ?_ ?_ _) | (refine Below.setCell ?_ ?_ _) | (refine Below.drew ?_) | (refine below_next ?_ ?_ (by assumption)) | omega | (simp; done) | (simp; omega)))⟩
end Go.Proofs.Ytkeofaklkbjnkaa.C
