/- The walks of the laws of intervals, out of the contracts of what they call. -/
import Derived.Test.YtjimfbkmfajkcabItvWrap
import Derived.Deep.DeepCutAuto
import Derived.Deep.CutBlock
import Derived.Deep.RegionWith
import Derived.Test.YtjimfbkmfajkcabRefTyp
namespace Go.Proofs.Ytjimfbkmfajkcab.C
open Go.RowKit
set_option linter.unusedSimpArgs false
set_option linter.unusedVariables false
attribute [local go_sem] fieldItv0 fieldItv1

theorem wf16 {x : Int} (h : (Lit.int .i16 x).wf = true) : -32768 ≤ x ∧ x ≤ 32767 := by
  have : IntKind.min .i16 ≤ x ∧ x ≤ IntKind.max .i16 := by simpa [Lit.wf] using h
  simpa [IntKind.min, IntKind.max, IntKind.signed, IntKind.bits] using this
theorem wf64 {x : Int} (h : (Lit.int .i64 x).wf = true) : -9223372036854775808 ≤ x ∧ x ≤ 9223372036854775807 := by
  have : IntKind.min .i64 ≤ x ∧ x ≤ IntKind.max .i64 := by simpa [Lit.wf] using h
  simpa [IntKind.min, IntKind.max, IntKind.signed, IntKind.bits] using this
theorem wf32 {x : Int} (h : (Lit.int .i32 x).wf = true) : -2147483648 ≤ x ∧ x ≤ 2147483647 := by
  have : IntKind.min .i32 ≤ x ∧ x ≤ IntKind.max .i32 := by simpa [Lit.wf] using h
  simpa [IntKind.min, IntKind.max, IntKind.signed, IntKind.bits] using this
theorem wf8 {x : Int} (h : (Lit.int .i8 x).wf = true) : -128 ≤ x ∧ x ≤ 127 := by
  have : IntKind.min .i8 ≤ x ∧ x ≤ IntKind.max .i8 := by simpa [Lit.wf] using h
  simpa [IntKind.min, IntKind.max, IntKind.signed, IntKind.bits] using this
theorem awake14_c (w : World) : Calls Try.prog 23 #[] w fun e w' => e = .returned (.bool true) ∧ Below w.heap.size w w' := by
  have HW : ∀ W : World, Calls Try.prog 40 #[.int .i64 2, .agg #[.int .i64 256, .int .i64 257]] W fun e w' => e = .returned (.agg #[.int .i64 0, .int .i64 1]) ∧ Below W.heap.size W w' := by
    intro W
    have := itvWrap_c 2 256 257 W (by decide) (by decide) (by decide) (by decide)
    rw [show wrapI 2 256 257 = (0, 1) from by decide +kernel] at this
    exact this
  go_enter Try.func23, Try.ntmps23
  go_wp2_with (first | (go_at_call 40; refine (HW _).mono ?_; rintro e w' ⟨rfl, hb⟩; have hbz := hb.size; (try simp at hbz)) | (go_at_call 31; refine (itvEmpty_c _ _ _).mono ?_; rintro e w' ⟨rfl, hb⟩; have hbz := hb.size; (try simp at hbz)))
  go_ret
  exact ⟨rfl, (by repeat' (first | exact Below.refl _ _ | (refine Below.alloc ?_ ?_ _) | (refine Below.setCell ?_ ?_ _) | (refine Below.drew ?_) | (refine below_next ?_ ?_ (by assumption)) | omega | (simp; done) | (simp; omega)))⟩
end Go.Proofs.Ytjimfbkmfajkcab.C
