/- A zone that comes in: a struct of a slice of slices of numbers, opened. Over any program. -/
import Derived.Test.YtnopjijhbflfdaaZScan
import Derived.ProofKit
import Derived.ChangeOld
import Derived.Deep.Matrix
import Derived.Lib.SmallJoins
namespace Go.Proofs.Ytnopjijhbflfdaa.C
open Go.ChangeShapes Go.WideShapes Go.RowKit Go.Deep Go.Joins
theorem array1 {α : Type} {cs : Array α} (h : cs.size = 1) : ∃ c0, cs = #[c0] := by
  obtain ⟨l⟩ := cs
  match l, h with
  | [c0], _ => exact ⟨c0, rfl⟩
theorem open_zone {H : Type} {enc : TypeId × Value → H} {P : Program} {w : World} {base : Nat} {held : Bool} {r : Reach} {b0 : Nat} {t e1 e2 : TypeId} {f0 : Field} {v : Value} {d : DataW H} {p : List MemPlace}
    (hs : P.underlying t = some (.struct #[f0])) (hone : oneCellFields P #[f0] = true) (hC : P.cellsOf t = 1) (h1 : P.underlying f0.type = some (.slice e1)) (h2 : P.underlying e1 = some (.slice e2)) (h3 : P.underlying e2 = some (.int .i64))
    (c1 : P.cellsOf e1 = 1) (c2 : P.cellsOf e2 = 1) (hv : Value.okWide P w r b0 t v) (h : DataW.Trod enc P w base (fun _ => true) held t v d p) :
    ∃ (A : Option Addr) (n cap : Nat) (L : Nat → Nat) (m : Z.M), v = .agg #[.slice A n cap] ∧ GM w A n L m := by
  obtain ⟨cs, rfl, hsz⟩ := okWide_struct hs hv
  obtain ⟨v0, rfl⟩ := array1 (hsz.trans hC)
  obtain ⟨fuel, hf⟩ := h
  obtain ⟨y0, n, hx, _, hy0⟩ := trod_struct1 hs hf
  obtain ⟨o0, k0⟩ := hone_of hone 0 f0 rfl
  have hr : DataW.trod enc P w base (fun _ => true) held n f0.type [v0] = some y0 := by simpa [Value.cells, o0, k0] using hy0
  rcases open_int_rows h1 h2 h3 c1 c2 hr with ⟨hcs, _⟩ | ⟨a, len, cap, A, L, C, Z, hcs, _, hl, hm, _, hrow⟩
  · simp at hcs
    subst hcs
    exact ⟨none, 0, 0, fun _ => 0, fun _ _ => 0, rfl, by omega, fun i hi => absurd hi (by omega), fun h => absurd h (by omega)⟩
  · simp at hcs
    subst hcs
    unfold maxLen at hm
    refine ⟨some a, len, cap, L, fun i j => (Z i).getD j 0, rfl, by omega, fun i hi => ?_, fun _ => ⟨a, A, C, rfl, fun i hi => ?_, fun i j hi hj => ?_⟩⟩
    · have := hrow i (by omega)
      have h1 := this.2.1
      have h2 := this.2.2.1
      unfold maxLen at h2
      omega
    · have := hrow i (by omega)
      exact ⟨this.1, this.2.1⟩
    · obtain ⟨q1, q2, q3, q4, q5, q6, q7⟩ := hrow i (by omega)
      cases hA : A i with
      | none => have := q6 hA; omega
      | some r => exact ⟨r, rfl, (q7 r hA).2 j (by omega)⟩
end Go.Proofs.Ytnopjijhbflfdaa.C
