/- bits.Mul of one and a small number: walks. -/
import Derived.Test.YtdmphpkiclfhhaaTyp
import Derived.Test.YtdmphpkiclfhhaaWords
import Derived.Laws.Bits64b
namespace Go.Proofs.Ytdmphpkiclfhhaa.C
open Go.RowKit
set_option linter.unusedSimpArgs false
set_option linter.unusedVariables false
theorem mask32 (a : Nat) (ha : a < 4294967296) : bits .and .u64 (a : Int) 4294967295 = (a : Int) := by
  have h := bits_and_u64_nat a 4294967295 (by omega) (by omega)
  have e : a &&& 4294967295 = a % 4294967296 := Nat.and_two_pow_sub_one_eq_mod a 32
  rw [e, Nat.mod_eq_of_lt ha] at h
  exact h
theorem mul64_1 (n : Nat) (w : World) (hn : n ≤ 1000000) : Calls Try.prog 125 #[.int .u64 1, .int .u64 n] w fun e w' => e = .returned (.tuple #[.int .u64 0, .int .u64 n]) ∧ w = w' := by
  have m1 := mask32 n (by omega)
  have m2 := mask32 1 (by omega)
  have m3 := mask32 0 (by omega)
  have d1 : (n : Int) / 4294967296 = 0 := by omega
  simp at m2 m3
  go_enter Try.func125, Try.ntmps125
  go_wp2_with fail
  go_ret2
  exact ⟨rfl, rfl⟩
theorem mul_1 (n : Nat) (w : World) (hn : n ≤ 1000000) : Calls Try.prog 117 #[.int .u64 1, .int .u64 n] w fun e w' => e = .returned (.tuple #[.int .u64 0, .int .u64 n]) ∧ w = w' := by
  go_enter Try.func117, Try.ntmps117
  go_wp2_with (go_at_call 125; refine (mul64_1 n _ hn).mono ?_; rintro e w' ⟨rfl, rfl⟩)
  go_ret2
  exact ⟨rfl, rfl⟩
end Go.Proofs.Ytdmphpkiclfhhaa.C
