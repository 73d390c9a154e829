/- What the listed variables give a walk, and a world that meets the condition. -/
import Derived.Test.YtfdlkbkheginlaaDoorRows
import Derived.Test.YtfdlkbkheginlaaDoorLexIs
import Derived.LaidMore
import Derived.LaidHandle
import Derived.MakeChecks
import Derived.Stop.LaidTwo
namespace Go.Proofs.YtfdlkbkheginlaaDoor.C
open Go.ChangeShapes Go.WideShapes Go.RowKit
abbrev laidL : List (String × DataW Unit) := [("calliper/lex.errLong", Rows.laid_calliper_lex_errLong), ("calliper/lex.errWord", Rows.laid_calliper_lex_errWord)]
theorem gErrLong : Tryd.prog.globalNamed "calliper/lex.errLong" = some 0 := by kernel_rfl
theorem gErrWord : Tryd.prog.globalNamed "calliper/lex.errWord" = some 1 := by kernel_rfl
theorem tErrLong : (Tryd.prog.globals[0]?).map (·.type) = some 43 := by kernel_rfl
theorem tErrWord : (Tryd.prog.globals[1]?).map (·.type) = some 43 := by kernel_rfl
theorem starE : "*" ++ "errors.errorString" = "*errors.errorString" := by decide
theorem rowE (u : TypeId) (h : Tryd.prog.typeName? 3 u = some "*errors.errorString") : u = 80 :=
  typeName_ptr_named (nm := "errors.errorString") (by rw [starE]; kernel_rfl) (by kernel_rfl) (by decide) u (by rw [starE]; exact h)
theorem cellsE : Tryd.prog.cellsOf 105 = 1 := by kernel_rfl
theorem cellsS : Tryd.prog.cellsOf 9 = 1 := by kernel_rfl
theorem gl_of_laid {W : World} (h : laidMetH Tryd.prog laidL W) : ∃ aL aW, GL aL aW W := by
  rw [MakeChecks.laidMetH_plain _ _ _ (by kernel_rfl)] at h
  obtain ⟨a0, a1, s0, s1, c0, c1, t0, t1, hv0, hv1, _, _, _, _, _, _, hne, hb0, hb1⟩ := laid_sentinels2 h gErrLong tErrLong gErrWord tErrWord Tryd.underlying43 rowE Tryd.underlying80 Tryd.underlying105 rfl rfl Tryd.underlying9 cellsE cellsS
  exact ⟨a0, a1, by simpa using World.var?_cell gErrLong hv0 0, by simpa using World.var?_cell gErrWord hv1 0, hne, ⟨_, _, hb0⟩, ⟨_, _, hb1⟩⟩
theorem door_met (os : Os) (args : Array Value) : laidMetH Tryd.prog laidL ((World.doorLaid Tryd.prog 400 os).forCall (fun _ _ => 0) ⟨#[], args, []⟩).memory :=
  laidMetH_of_parts3 (fuel := 8) (laidMet_of_run' 8 (by kernel_rfl) (by kernel_rfl)) (by kernel_rfl) (by kernel_rfl)
theorem door_shaped (os : Os) : (World.doorLaid Tryd.prog 400 os).Shaped Tryd.prog := World.shaped_of_RefB (by kernel_rfl) (by kernel_rfl)
end Go.Proofs.YtfdlkbkheginlaaDoor.C
