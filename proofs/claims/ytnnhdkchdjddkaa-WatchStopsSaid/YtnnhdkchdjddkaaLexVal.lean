/- lex.value, lex.Number, lex.number: walks. -/
import Derived.Test.YtnnhdkchdjddkaaLexKey
import Derived.Test.YtnnhdkchdjddkaaLexIs
import Derived.OwnWalk
import Derived.BigGuard
namespace Go.Proofs.Ytnnhdkchdjddkaa.C
open Go.RowKit
set_option linter.unusedSimpArgs false
set_option linter.unusedVariables false
theorem foldV_snoc (v : Int) (l : List UInt8) (c : UInt8) : foldV v (l ++ [c]) = 10 * foldV v l + ((c.toNat : Int) - 48) := by
  induction l generalizing v with
  | nil => rfl
  | cons a r ih => exact ih _
theorem take_snoc (l : List UInt8) (k : Nat) (h : k < l.length) : l.take (k + 1) = l.take k ++ [l.getD k 0] := by
  rw [List.take_succ_eq_append_getElem h]
  simp [List.getD, h]
theorem foldV_step (l : List UInt8) (k : Nat) (h : k < l.length) : foldV 0 (l.take (k + 1)) = 10 * foldV 0 (l.take k) + (chI l k - 48) := by
  rw [take_snoc l k h, foldV_snoc]
  rfl
theorem digitI_range {c : Int} (h : digitI c = true) : 48 ≤ c ∧ c ≤ 57 := by
  unfold digitI at h
  simp at h
  exact h
theorem foldV_bound (l : List UInt8) : ∀ k, k ≤ runL digitI l → 0 ≤ foldV 0 (l.take k) ∧ foldV 0 (l.take k) < 10 ^ k
  | 0, _ => by simp [foldV]
  | k + 1, h => by
    have ih := foldV_bound l k (by omega)
    obtain ⟨h1, h2⟩ := runL_lt digitI l k (by omega)
    have h3 := digitI_range h2
    rw [foldV_step l k h1, Int.pow_succ]
    omega
theorem pow_le10 {k : Nat} (h : k ≤ 10) : (10 : Int) ^ k ≤ 10000000000 := by
  rcases (by omega : k = 0 ∨ k = 1 ∨ k = 2 ∨ k = 3 ∨ k = 4 ∨ k = 5 ∨ k = 6 ∨ k = 7 ∨ k = 8 ∨ k = 9 ∨ k = 10) with rfl | rfl | rfl | rfl | rfl | rfl | rfl | rfl | rfl | rfl | rfl <;> decide
/-- The part of value behind the cut. -/
def valueT (D : List UInt8) (t : Int) : Int × Int × Int :=
  if 10 < runL digitI D then (0, 0, 3)
  else if maxL t < foldV 0 (D.take (runL digitI D)) then (0, 0, 3)
  else if runL digitI D = 0 ∨ runL digitI D < D.length ∨ (1 < runL digitI D ∧ chI D 0 = 48) then (0, 0, 4)
  else (foldV 0 (D.take (runL digitI D)), t, 0)
theorem valueL_eq (d : List UInt8) : valueL d = valueT (Lib.trimSuffix d [117]) (if Lib.hasSuffix d [117] = true then 6 else 5) := by
  unfold valueL valueT
  simp only
end Go.Proofs.Ytnnhdkchdjddkaa.C
