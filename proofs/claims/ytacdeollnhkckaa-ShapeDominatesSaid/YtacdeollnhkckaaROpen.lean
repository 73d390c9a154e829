/- A slice of slices of numbers that comes in, opened. Over any program. -/
import Derived.ProofKit
import Derived.ChangeOld
import Derived.Deep.Matrix
import Derived.Below
import Derived.Lib.SmallJoins
namespace Go.Proofs.Ytacdeollnhkckaa.C
open Go.ChangeShapes Go.WideShapes Go.RowKit Go.Deep Go.Joins
/-- Rows of numbers that are read: n of them, the i-th L i long, with m i j at j. -/
def GR (w : World) (A : Option Addr) (n : Nat) (L : Nat → Nat) (m : Nat → Nat → Int) : Prop :=
  n ≤ 9223372036854775807 ∧ (0 < n → ∃ (a : Addr) (R : Nat → Option Addr) (C : Nat → Nat), A = some a ∧ (∀ i, i < n → w.cell? (a.add i) = some (.slice (R i) (L i) (C i)) ∧ L i ≤ C i ∧ C i ≤ 9223372036854775807) ∧ (∀ i, i < n → R i = none → C i = 0) ∧ ∀ i j, i < n → j < L i → ∃ r, R i = some r ∧ w.cell? (r.add j) = some (.int .i64 (m i j)))
theorem GR.below {w w' : World} {A : Option Addr} {n : Nat} {L : Nat → Nat} {m : Nat → Nat → Int} (h : GR w A n L m) (hb : Below w.heap.size w w') : GR w' A n L m :=
  ⟨h.1, fun h0 => by
    obtain ⟨a, R, C, e, h1, h2, h3⟩ := h.2 h0
    exact ⟨a, R, C, e, fun i hi => ⟨(hb.cell (World.block_lt_of_cell? w _ (h1 i hi).1)).trans (h1 i hi).1, (h1 i hi).2⟩, h2, fun i j hi hj => by obtain ⟨r, e2, h4⟩ := h3 i j hi hj; exact ⟨r, e2, (hb.cell (World.block_lt_of_cell? w _ h4)).trans h4⟩⟩⟩
theorem open_rows {H : Type} {enc : TypeId × Value → H} {P : Program} {w : World} {base : Nat} {held : Bool} {t e1 e2 : TypeId} {A : Option Addr} {n cap : Nat} {d : DataW H} {p : List MemPlace}
    (h1 : P.underlying t = some (.slice e1)) (h2 : P.underlying e1 = some (.slice e2)) (h3 : P.underlying e2 = some (.int .i64))
    (c1 : P.cellsOf e1 = 1) (c2 : P.cellsOf e2 = 1) (h : DataW.Trod enc P w base (fun _ => true) held t (.slice A n cap) d p) : ∃ (L : Nat → Nat) (m : Nat → Nat → Int), GR w A n L m := by
  obtain ⟨fuel, hf⟩ := h
  rcases open_int_rows h1 h2 h3 c1 c2 hf with ⟨hcs, _⟩ | ⟨a, len, cap', R, L, C, Z, hcs, _, hl, hm, _, hrow⟩
  · simp [Value.cells] at hcs
    obtain ⟨rfl, rfl, rfl⟩ := hcs
    exact ⟨fun _ => 0, fun _ _ => 0, by omega, fun h => absurd h (by omega)⟩
  · simp [Value.cells] at hcs
    obtain ⟨rfl, rfl, rfl⟩ := hcs
    unfold maxLen at hm
    refine ⟨L, fun i j => (Z i).getD j 0, by omega, fun _ => ⟨a, R, C, rfl, fun i hi => ?_, fun i hi hR => ?_, fun i j hi hj => ?_⟩⟩
    · have := hrow i (by omega)
      have h2 := this.2.2.1
      unfold maxLen at h2
      exact ⟨this.1, this.2.1, by omega⟩
    · obtain ⟨q1, q2, q3, q4, q5, q6, q7⟩ := hrow i (by omega)
      exact q6 hR
    · obtain ⟨q1, q2, q3, q4, q5, q6, q7⟩ := hrow i (by omega)
      cases hA : R i with
      | none => have := q6 hA; omega
      | some r => exact ⟨r, rfl, (q7 r hA).2 j (by omega)⟩
end Go.Proofs.Ytacdeollnhkckaa.C
