/- Contracts of the reference's types: the same closed forms as the program's; for every number, in whatever memory. -/
import Derived.Test.YtdmphpkiclfhhaaTyp
namespace Go.Proofs.Ytdmphpkiclfhhaa.C
open Go.RowKit
set_option linter.unusedSimpArgs false
set_option linter.unusedVariables false

theorem r_bits_c (t : Int) (w : World) : Calls Try.prog 114 #[.int .i64 t] w fun e w' => e = .returned (.int .i64 (bitsT t)) ∧ w = w' := by
  by_cases hlo : t < 1
  · have e0 : bitsT t = 0 := by unfold bitsT; rw [if_neg (by omega), if_neg (by omega), if_neg (by omega)]
    rw [e0]
    clear e0
    go_enter Try.func114, Try.ntmps114
    go_wp2
    go_ret
    exact ⟨rfl, rfl⟩
  by_cases hhi : 6 < t
  · have e0 : bitsT t = 0 := by unfold bitsT; rw [if_neg (by omega), if_neg (by omega), if_neg (by omega)]
    rw [e0]
    clear e0
    go_enter Try.func114, Try.ntmps114
    go_wp2
    go_ret
    exact ⟨rfl, rfl⟩
  rcases (by omega : t = 1 ∨ t = 2 ∨ t = 3 ∨ t = 4 ∨ t = 5 ∨ t = 6) with rfl | rfl | rfl | rfl | rfl | rfl
  · go_enter Try.func114, Try.ntmps114
    go_wp2
    go_ret
    exact ⟨rfl, rfl⟩
  · go_enter Try.func114, Try.ntmps114
    go_wp2
    go_ret
    exact ⟨rfl, rfl⟩
  · go_enter Try.func114, Try.ntmps114
    go_wp2
    go_ret
    exact ⟨rfl, rfl⟩
  · go_enter Try.func114, Try.ntmps114
    go_wp2
    go_ret
    exact ⟨rfl, rfl⟩
  · go_enter Try.func114, Try.ntmps114
    go_wp2
    go_ret
    exact ⟨rfl, rfl⟩
  · go_enter Try.func114, Try.ntmps114
    go_wp2
    go_ret
    exact ⟨rfl, rfl⟩
theorem r_min_c (t : Int) (w : World) : Calls Try.prog 75 #[.int .i64 t] w fun e w' => e = .returned (.int .i64 (minT t)) ∧ w = w' := by
  rcases tcases t with rfl | rfl | rfl | rfl | rfl | rfl | ⟨h1, h2, h3, h4, h5, h6⟩
  · have e2 : bitsT 1 = 8 := rfl
    go_enter Try.func75, Try.ntmps75
    go_wp2_with ((go_at_call 114; refine (r_bits_c _ _).mono ?_; rintro e w' ⟨rfl, rfl⟩))
    go_ret
    exact ⟨rfl, rfl⟩
  · have e2 : bitsT 2 = 8 := rfl
    go_enter Try.func75, Try.ntmps75
    go_wp2_with ((go_at_call 114; refine (r_bits_c _ _).mono ?_; rintro e w' ⟨rfl, rfl⟩))
    go_ret
    exact ⟨rfl, rfl⟩
  · have e2 : bitsT 3 = 16 := rfl
    go_enter Try.func75, Try.ntmps75
    go_wp2_with ((go_at_call 114; refine (r_bits_c _ _).mono ?_; rintro e w' ⟨rfl, rfl⟩))
    go_ret
    exact ⟨rfl, rfl⟩
  · have e2 : bitsT 4 = 16 := rfl
    go_enter Try.func75, Try.ntmps75
    go_wp2_with ((go_at_call 114; refine (r_bits_c _ _).mono ?_; rintro e w' ⟨rfl, rfl⟩))
    go_ret
    exact ⟨rfl, rfl⟩
  · have e2 : bitsT 5 = 32 := rfl
    go_enter Try.func75, Try.ntmps75
    go_wp2_with ((go_at_call 114; refine (r_bits_c _ _).mono ?_; rintro e w' ⟨rfl, rfl⟩))
    go_ret
    exact ⟨rfl, rfl⟩
  · have e2 : bitsT 6 = 32 := rfl
    go_enter Try.func75, Try.ntmps75
    go_wp2_with ((go_at_call 114; refine (r_bits_c _ _).mono ?_; rintro e w' ⟨rfl, rfl⟩))
    go_ret
    exact ⟨rfl, rfl⟩
  · have e0 : minT t = 0 := by simp [minT, h1, h3, h5]
    have e2 : bitsT t = 0 := by simp [bitsT, h1, h2, h3, h4, h5, h6]
    rw [e0]
    clear h1 h2 h3 h4 h5 h6 e0
    go_enter Try.func75, Try.ntmps75
    go_wp2_with ((go_at_call 114; refine (r_bits_c _ _).mono ?_; rintro e w' ⟨rfl, rfl⟩))
    go_ret
    exact ⟨rfl, rfl⟩
theorem r_max_c (t : Int) (w : World) : Calls Try.prog 74 #[.int .i64 t] w fun e w' => e = .returned (.int .i64 (maxT t)) ∧ w = w' := by
  rcases tcases t with rfl | rfl | rfl | rfl | rfl | rfl | ⟨h1, h2, h3, h4, h5, h6⟩
  · have e2 : bitsT 1 = 8 := rfl
    go_enter Try.func74, Try.ntmps74
    go_wp2_with ((go_at_call 114; refine (r_bits_c _ _).mono ?_; rintro e w' ⟨rfl, rfl⟩))
    go_ret
    exact ⟨rfl, rfl⟩
  · have e2 : bitsT 2 = 8 := rfl
    go_enter Try.func74, Try.ntmps74
    go_wp2_with ((go_at_call 114; refine (r_bits_c _ _).mono ?_; rintro e w' ⟨rfl, rfl⟩))
    go_ret
    exact ⟨rfl, rfl⟩
  · have e2 : bitsT 3 = 16 := rfl
    go_enter Try.func74, Try.ntmps74
    go_wp2_with ((go_at_call 114; refine (r_bits_c _ _).mono ?_; rintro e w' ⟨rfl, rfl⟩))
    go_ret
    exact ⟨rfl, rfl⟩
  · have e2 : bitsT 4 = 16 := rfl
    go_enter Try.func74, Try.ntmps74
    go_wp2_with ((go_at_call 114; refine (r_bits_c _ _).mono ?_; rintro e w' ⟨rfl, rfl⟩))
    go_ret
    exact ⟨rfl, rfl⟩
  · have e2 : bitsT 5 = 32 := rfl
    go_enter Try.func74, Try.ntmps74
    go_wp2_with ((go_at_call 114; refine (r_bits_c _ _).mono ?_; rintro e w' ⟨rfl, rfl⟩))
    go_ret
    exact ⟨rfl, rfl⟩
  · have e2 : bitsT 6 = 32 := rfl
    go_enter Try.func74, Try.ntmps74
    go_wp2_with ((go_at_call 114; refine (r_bits_c _ _).mono ?_; rintro e w' ⟨rfl, rfl⟩))
    go_ret
    exact ⟨rfl, rfl⟩
  · have e0 : maxT t = 0 := by simp [maxT, h1, h2, h3, h4, h5, h6]
    have e2 : bitsT t = 0 := by simp [bitsT, h1, h2, h3, h4, h5, h6]
    rw [e0]
    clear h1 h2 h3 h4 h5 h6 e0
    go_enter Try.func74, Try.ntmps74
    go_wp2_with ((go_at_call 114; refine (r_bits_c _ _).mono ?_; rintro e w' ⟨rfl, rfl⟩))
    go_ret
    exact ⟨rfl, rfl⟩
theorem wrap_i8 (n : Int) : IntKind.i8.wrap n = (n + 128) % 256 - 128 := by
  simp [IntKind.wrap, IntKind.bits, IntKind.signed]
  split <;> omega
theorem wrap_i16 (n : Int) : IntKind.i16.wrap n = (n + 32768) % 65536 - 32768 := by
  simp [IntKind.wrap, IntKind.bits, IntKind.signed]
  split <;> omega
theorem wrap_u16 (n : Int) : IntKind.u16.wrap n = n % 65536 := by simp [IntKind.wrap, IntKind.bits, IntKind.signed]
theorem r_up_c (t : Int) (w : World) : Calls Try.prog 81 #[.int .i64 t] w fun e w' => e = .returned (.int .i64 (upT t)) ∧ w = w' := by
  rcases tcases t with rfl | rfl | rfl | rfl | rfl | rfl | ⟨h1, h2, h3, h4, h5, h6⟩
  · have e2 : bitsT 1 = 8 := rfl
    go_enter Try.func81, Try.ntmps81
    go_wp2_with ((go_at_call 114; refine (r_bits_c _ _).mono ?_; rintro e w' ⟨rfl, rfl⟩))
    go_ret
    exact ⟨rfl, rfl⟩
  · have e2 : bitsT 2 = 8 := rfl
    go_enter Try.func81, Try.ntmps81
    go_wp2_with ((go_at_call 114; refine (r_bits_c _ _).mono ?_; rintro e w' ⟨rfl, rfl⟩))
    go_ret
    exact ⟨rfl, rfl⟩
  · have e2 : bitsT 3 = 16 := rfl
    go_enter Try.func81, Try.ntmps81
    go_wp2_with ((go_at_call 114; refine (r_bits_c _ _).mono ?_; rintro e w' ⟨rfl, rfl⟩))
    go_ret
    exact ⟨rfl, rfl⟩
  · have e2 : bitsT 4 = 16 := rfl
    go_enter Try.func81, Try.ntmps81
    go_wp2_with ((go_at_call 114; refine (r_bits_c _ _).mono ?_; rintro e w' ⟨rfl, rfl⟩))
    go_ret
    exact ⟨rfl, rfl⟩
  · have e2 : bitsT 5 = 32 := rfl
    go_enter Try.func81, Try.ntmps81
    go_wp2_with ((go_at_call 114; refine (r_bits_c _ _).mono ?_; rintro e w' ⟨rfl, rfl⟩))
    go_ret
    exact ⟨rfl, rfl⟩
  · have e2 : bitsT 6 = 32 := rfl
    go_enter Try.func81, Try.ntmps81
    go_wp2_with ((go_at_call 114; refine (r_bits_c _ _).mono ?_; rintro e w' ⟨rfl, rfl⟩))
    go_ret
    exact ⟨rfl, rfl⟩
  · have e0 : upT t = 0 := by simp [upT, isT, h1, h2, h3, h4, h5, h6]
    have e2 : bitsT t = 0 := by simp [bitsT, h1, h2, h3, h4, h5, h6]
    rw [e0]
    clear h1 h2 h3 h4 h5 h6 e0
    go_enter Try.func81, Try.ntmps81
    go_wp2_with ((go_at_call 114; refine (r_bits_c _ _).mono ?_; rintro e w' ⟨rfl, rfl⟩))
    go_ret
    exact ⟨rfl, rfl⟩
end Go.Proofs.Ytdmphpkiclfhhaa.C
