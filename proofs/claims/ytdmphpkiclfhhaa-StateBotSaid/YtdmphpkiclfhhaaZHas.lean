/- zone.Has and the reference's HasZone: walks. -/
import Derived.Test.YtdmphpkiclfhhaaZBuild
import Derived.Test.YtdmphpkiclfhhaaZSound
import Derived.Test.YtdmphpkiclfhhaaSrc
namespace Go.Proofs.Ytdmphpkiclfhhaa.C
open Go.RowKit
set_option linter.unusedSimpArgs false
set_option linter.unusedVariables false
/-- nought, and the numbers. -/
def ext (f : Nat → Int) : Nat → Int := fun i => if i = 0 then 0 else f (i - 1)
def hasZ (f : Nat → Int) (k : Nat) (m : Z.M) (n : Nat) : Bool := decide (k + 1 = n ∧ ∀ i, i < n → ∀ j, j < n → m i j < 1099511627776 → ext f i - ext f j ≤ m i j)
theorem hasZ_true {f : Nat → Int} {k n : Nat} {m : Z.M} (h : k + 1 = n) (hk : Z.Keeps (ext f) m n) : hasZ f k m n = true := decide_eq_true ⟨h, fun i hi j hj => hk i j hi hj⟩
theorem hasZ_false {f : Nat → Int} {k n : Nat} {m : Z.M} (h : ¬ (k + 1 = n ∧ Z.Keeps (ext f) m n)) : hasZ f k m n = false := decide_eq_false (fun q => h ⟨q.1, fun i j hi hj => q.2 i hi j hj⟩)
theorem ext_list (f : Nat → Int) (k : Nat) : [Value.int .i64 0] ++ ((List.range k).map fun j => Value.int .i64 (f j)) = (List.range (k + 1)).map fun j => Value.int .i64 (ext f j) := by
  rw [List.range_succ_eq_map, List.map_cons, List.map_map]
  rfl
theorem RowC.lies {w : World} {A : Option Addr} {n : Nat} {f : Nat → Int} (h : RowC w A n f) : Lies w A n ((List.range n).map fun j => Value.int .i64 (f j)) := fun h0 => by
  obtain ⟨a, e, hc⟩ := h.2 h0
  refine ⟨a, e, fun j u hu => ?_⟩
  have hj : j < n := by
    rcases Nat.lt_or_ge j n with h | h
    · exact h
    · simp [h] at hu
  simp [hj] at hu
  rw [← hu]
  exact hc j hj
theorem own_single (w : World) (e : TypeId) (v : Value) : (w.alloc (.cells #[v] e)).ownsRow w.heap.size e 1 (.slice (some ⟨w.heap.size, 0, none⟩) 1 1) 1 [v] :=
  ⟨rfl, .inr ⟨w.heap.size, 1, #[v], rfl, Nat.le_refl _, by simpa using heap_alloc_new w (.cells #[v] e), Nat.le_refl _, by simp [maxLen], rfl, rfl⟩⟩
/-- x, the numbers behind a nought. -/
def ExtIn (w : World) (g k : Nat) (f : Nat → Int) : Prop := g < w.heap.size ∧ ∀ j, j < k + 1 → w.cell? ⟨g, j, none⟩ = some (.int .i64 (ext f j))
theorem ExtIn.below {w w' : World} {g k : Nat} {f : Nat → Int} (h : ExtIn w g k f) (hb : Below w.heap.size w w') : ExtIn w' g k f :=
  ⟨Nat.lt_of_lt_of_le h.1 hb.size, fun j hj => (hb.cell (p := ⟨g, j, none⟩) h.1).trans (h.2 j hj)⟩
end Go.Proofs.Ytdmphpkiclfhhaa.C
