/- r5.Do, r5.Rel, arith.Rel: the closed forms of XArith. Printed by wip/gen_arith2.py. -/
import Derived.Test.YtnnhdkchdjddkaaArith
import Derived.Test.YtnnhdkchdjddkaaBits
import Derived.Laws.Bits64
namespace Go.Proofs.Ytnnhdkchdjddkaa.C
open Go.RowKit
set_option linter.unusedSimpArgs false
set_option linter.unusedVariables false
theorem sg64 : IntKind.i64.signed = true := rfl
attribute [local go_sem] sg64
def relI (r a b : Int) : Bool := if r = 1 then (a == b) else if r = 2 then (a != b) else if r = 3 then decide (a < b) else if r = 4 then decide (a ≤ b) else if r = 5 then decide (b < a) else if r = 6 then decide (b ≤ a) else false
theorem rel_c (r a b : Int) (w : World) : Calls Try.prog 22 #[.int .i64 r, .int .i64 a, .int .i64 b] w fun e w' => e = .returned (.bool (relI r a b)) ∧ w = w' := by
  by_cases h1 : r = 1
  · subst h1
    rw [show relI 1 a b = (a == b) from by simp [relI]]
    go_enter Try.func22, Try.ntmps22
    go_wp2
    go_ret
    exact ⟨by simp [bne], rfl⟩
  by_cases h2 : r = 2
  · subst h2
    rw [show relI 2 a b = (a != b) from by simp [relI]]
    go_enter Try.func22, Try.ntmps22
    go_wp2
    go_ret
    exact ⟨by simp [bne], rfl⟩
  by_cases h3 : r = 3
  · subst h3
    rw [show relI 3 a b = decide (a < b) from by simp [relI]]
    go_enter Try.func22, Try.ntmps22
    go_wp2
    go_ret
    exact ⟨by simp [bne], rfl⟩
  by_cases h4 : r = 4
  · subst h4
    rw [show relI 4 a b = decide (a ≤ b) from by simp [relI]]
    go_enter Try.func22, Try.ntmps22
    go_wp2
    go_ret
    exact ⟨by simp [bne], rfl⟩
  by_cases h5 : r = 5
  · subst h5
    rw [show relI 5 a b = decide (b < a) from by simp [relI]]
    go_enter Try.func22, Try.ntmps22
    go_wp2
    go_ret
    exact ⟨by simp [bne], rfl⟩
  by_cases h6 : r = 6
  · subst h6
    rw [show relI 6 a b = decide (b ≤ a) from by simp [relI]]
    go_enter Try.func22, Try.ntmps22
    go_wp2
    go_ret
    exact ⟨by simp [bne], rfl⟩
  rw [show relI r a b = false from by simp [relI, h1, h2, h3, h4, h5, h6]]
  have k1 : (r == 1) = false := by simpa using h1
  have k2 : (r == 2) = false := by simpa using h2
  have k3 : (r == 3) = false := by simpa using h3
  have k4 : (r == 4) = false := by simpa using h4
  have k5 : (r == 5) = false := by simpa using h5
  have k6 : (r == 6) = false := by simpa using h6
  go_enter Try.func22, Try.ntmps22
  go_wp2
  go_ret
  exact ⟨rfl, rfl⟩
end Go.Proofs.Ytnnhdkchdjddkaa.C
