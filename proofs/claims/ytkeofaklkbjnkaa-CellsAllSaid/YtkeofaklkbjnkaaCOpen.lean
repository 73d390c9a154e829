/- What a row's argument reads as: a slice of structs of two numbers (intervals). -/
import Derived.Test.YtkeofaklkbjnkaaCell
import Derived.Deep.SlicePairs
import Derived.Lib.SmallJoins
import Derived.WalkSpells
namespace Go.Proofs.Ytkeofaklkbjnkaa.C
open Go.ChangeShapes Go.WideShapes Go.RowKit Go.Deep Go.Joins
theorem open_itvs {H : Type} {enc : TypeId × Value → H} {P : Program} {W : World} {base : Nat} {spare : Nat → Bool} {held : Bool} {t e : TypeId} {f0 f1 : Field} {a : Option Addr} {len cap : Nat} {d : DataW H} {ps : List MemPlace}
    (ht : P.underlying t = some (.slice e)) (he : P.underlying e = some (.struct #[f0, f1])) (ce : P.cellsOf e = 2) (o0 : f0.offset = 0) (o1 : f1.offset = 1) (c0 : P.cellsOf f0.type = 1) (c1 : P.cellsOf f1.type = 1)
    (k0 : P.underlying f0.type = some (.int .i64)) (k1 : P.underlying f1.type = some (.int .i64))
    (h : DataW.Trod enc P W base spare held t (.slice a len cap) d ps) : ∃ r, CR W a len r := by
  obtain ⟨fuel, hf⟩ := h
  rcases open_slice_pairs ht he ce o0 o1 c0 c1 hf with ⟨hcs, _⟩ | ⟨x, l, c, m, n, V0, V1, D0, D1, P0, P1, hcs, _, hl, hm, hmm, _, hx⟩
  · simp [Value.cells] at hcs
    obtain ⟨rfl, rfl, rfl⟩ := hcs
    exact ⟨fun _ => (0, 0), by omega, fun h => absurd h (by omega)⟩
  · simp [Value.cells] at hcs
    obtain ⟨rfl, rfl, rfl⟩ := hcs
    have hlm : len ≤ m := by rw [hmm]; split <;> omega
    have each : ∀ i, i < m → ∃ q : Int × Int, W.cell? (x.add (i * 2)) = some (.int .i64 q.1) ∧ W.cell? (x.add (i * 2 + 1)) = some (.int .i64 q.2) := fun i hi => by
      obtain ⟨e0, e1, t0, t1⟩ := hx i hi
      obtain ⟨a0, g0, _⟩ := DataW.trod_int k0 t0
      obtain ⟨a1, g1, _⟩ := DataW.trod_int k1 t1
      simp at g0 g1
      exact ⟨(a0, a1), by rw [e0, g0], by rw [e1, g1]⟩
    obtain ⟨q, hq⟩ := choose_lt each
    unfold maxLen at hm
    refine ⟨q, by omega, fun h0 => ⟨x, rfl, ?_, fun i hi => hq i (by omega)⟩⟩
    have := World.block_lt_of_cell? W _ (hq 0 (by omega)).1
    rwa [add_block] at this
end Go.Proofs.Ytkeofaklkbjnkaa.C
