/- Contracts of the reference's types: the same closed forms as the program's; for every number, in whatever memory. -/
import Derived.Test.YtkgdogdallojlaaTyp
namespace Go.Proofs.Ytkgdogdallojlaa.C
open Go.RowKit
set_option linter.unusedSimpArgs false
set_option linter.unusedVariables false

theorem wrap_i8 (n : Int) : IntKind.i8.wrap n = (n + 128) % 256 - 128 := by
  simp [IntKind.wrap, IntKind.bits, IntKind.signed]
  split <;> omega
theorem wrap_i16 (n : Int) : IntKind.i16.wrap n = (n + 32768) % 65536 - 32768 := by
  simp [IntKind.wrap, IntKind.bits, IntKind.signed]
  split <;> omega
theorem wrap_u16 (n : Int) : IntKind.u16.wrap n = n % 65536 := by simp [IntKind.wrap, IntKind.bits, IntKind.signed]
theorem r_wrap_c (t v : Int) (w : World) : Calls Try.prog 30 #[.int .i64 t, .int .i64 v] w fun e w' => e = .returned (.int .i64 (wrapT t v)) ∧ w = w' := by
  rcases tcases t with rfl | rfl | rfl | rfl | rfl | rfl | ⟨h1, h2, h3, h4, h5, h6⟩
  · go_enter Try.func30, Try.ntmps30
    go_wp2
    go_ret
    exact ⟨ret_i64 (by first | rfl | (simp [wrapT, wrap_i8, wrap_i16, wrap_u16, wrap64, wrap32]; done) | (simp only [wrapT, wrap_i8, wrap_i16, wrap_u16, wrap64, wrap32, Int.reduceEq, if_false, if_true]; omega)), rfl⟩
  · go_enter Try.func30, Try.ntmps30
    go_wp2
    go_ret
    exact ⟨ret_i64 (by first | rfl | (simp [wrapT, wrap_i8, wrap_i16, wrap_u16, wrap64, wrap32]; done) | (simp only [wrapT, wrap_i8, wrap_i16, wrap_u16, wrap64, wrap32, Int.reduceEq, if_false, if_true]; omega)), rfl⟩
  · go_enter Try.func30, Try.ntmps30
    go_wp2
    go_ret
    exact ⟨ret_i64 (by first | rfl | (simp [wrapT, wrap_i8, wrap_i16, wrap_u16, wrap64, wrap32]; done) | (simp only [wrapT, wrap_i8, wrap_i16, wrap_u16, wrap64, wrap32, Int.reduceEq, if_false, if_true]; omega)), rfl⟩
  · go_enter Try.func30, Try.ntmps30
    go_wp2
    go_ret
    exact ⟨ret_i64 (by first | rfl | (simp [wrapT, wrap_i8, wrap_i16, wrap_u16, wrap64, wrap32]; done) | (simp only [wrapT, wrap_i8, wrap_i16, wrap_u16, wrap64, wrap32, Int.reduceEq, if_false, if_true]; omega)), rfl⟩
  · go_enter Try.func30, Try.ntmps30
    go_wp2
    go_ret
    exact ⟨ret_i64 (by first | rfl | (simp [wrapT, wrap_i8, wrap_i16, wrap_u16, wrap64, wrap32]; done) | (simp only [wrapT, wrap_i8, wrap_i16, wrap_u16, wrap64, wrap32, Int.reduceEq, if_false, if_true]; omega)), rfl⟩
  · go_enter Try.func30, Try.ntmps30
    go_wp2
    go_ret
    exact ⟨ret_i64 (by first | rfl | (simp [wrapT, wrap_i8, wrap_i16, wrap_u16, wrap64, wrap32]; done) | (simp only [wrapT, wrap_i8, wrap_i16, wrap_u16, wrap64, wrap32, Int.reduceEq, if_false, if_true]; omega)), rfl⟩
  · have e0 : wrapT t v = 0 := by simp [wrapT, h1, h2, h3, h4, h5, h6]
    have b1 := beq_eq_false_iff_ne.mpr h1
    have b2 := beq_eq_false_iff_ne.mpr h2
    have b3 := beq_eq_false_iff_ne.mpr h3
    have b4 := beq_eq_false_iff_ne.mpr h4
    have b5 := beq_eq_false_iff_ne.mpr h5
    have b6 := beq_eq_false_iff_ne.mpr h6
    rw [e0]
    clear h1 h2 h3 h4 h5 h6 e0
    go_enter Try.func30, Try.ntmps30
    go_wp2
    go_ret
    exact ⟨rfl, rfl⟩
end Go.Proofs.Ytkgdogdallojlaa.C
