/- The walks of the laws of types, out of the contracts of what they call. -/
import Derived.Test.YtjimfbkmfajkcaaRefTyp
namespace Go.Proofs.Ytjimfbkmfajkcaa.C
open Go.RowKit
set_option linter.unusedSimpArgs false
set_option linter.unusedVariables false

theorem awake1_c (w : World) : Calls Try.prog 19 #[] w fun e w' => e = .returned (.bool true) ∧ w = w' := by
  have e1 : wrapT 2 257 = 1 := by decide
  go_enter Try.func19, Try.ntmps19
  go_wp2_with ((go_at_call 15; refine (wrap_c _ _ _).mono ?_; rintro e w' ⟨rfl, rfl⟩))
  go_ret
  exact ⟨rfl, rfl⟩
theorem typAll_c (t u v : Int) (s : ByteArray) (w : World) : Calls Try.prog 10 #[.int .i64 t, .int .i64 u, .int .i64 v, .string s] w fun e w' => e = .returned (.bool true) ∧ Below w.heap.size w w' := by
  go_enter Try.func10, Try.ntmps10
  go_wp2_with (first | (go_at_call 17; refine (min_c _ _).mono ?_; rintro e w' ⟨rfl, rfl⟩) | (go_at_call 16; refine (max_c _ _).mono ?_; rintro e w' ⟨rfl, rfl⟩) | (go_at_call 18; refine (in_c _ _ _).mono ?_; rintro e w' ⟨rfl, rfl⟩) | (go_at_call 15; refine (wrap_c _ _ _).mono ?_; rintro e w' ⟨rfl, rfl⟩) | (go_at_call 45; refine (up_c _ _).mono ?_; rintro e w' ⟨rfl, rfl⟩) | (go_at_call 27; refine (join_c _ _ _).mono ?_; rintro e w' ⟨rfl, rfl⟩) | (go_at_call 42; refine (r_min_c _ _).mono ?_; rintro e w' ⟨rfl, rfl⟩) | (go_at_call 43; refine (r_max_c _ _).mono ?_; rintro e w' ⟨rfl, rfl⟩) | (go_at_call 44; refine (r_in_c _ _ _).mono ?_; rintro e w' ⟨rfl, rfl⟩) | (go_at_call 32; refine (r_wrap_c _ _ _).mono ?_; rintro e w' ⟨rfl, rfl⟩) | (go_at_call 46; refine (r_up_c _ _).mono ?_; rintro e w' ⟨rfl, rfl⟩) | (go_at_call 47; refine (r_join_c _ _ _).mono ?_; rintro e w' ⟨rfl, rfl⟩) | (go_at_call 25; refine (name_c _ _).mono ?_; rintro e w' ⟨rfl, hb1⟩) | (go_at_call 48; refine (r_name_c _ _).mono ?_; rintro e w' ⟨rfl, hb2⟩) | (go_at_call 26; refine (read_c _ _).mono ?_; rintro e w' ⟨rfl, hb3⟩) | (go_at_call 49; refine (r_read_c _ _).mono ?_; rintro e w' ⟨rfl, hb4⟩) | (go_at_call 19; refine (awake1_c _).mono ?_; rintro e w' ⟨rfl, rfl⟩))
  go_ret
  have g2 := hb1.trans (hb2.mono hb1.size)
  have g3 := g2.trans (hb3.mono g2.size)
  exact ⟨rfl, g3.trans (hb4.mono g3.size)⟩
end Go.Proofs.Ytjimfbkmfajkcaa.C
