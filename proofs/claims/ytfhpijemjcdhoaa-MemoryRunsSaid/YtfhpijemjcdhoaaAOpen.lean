/- What a row's argument reads as: a slice of structs of four numbers. Over any program. -/
import Derived.Test.YtfhpijemjcdhoaaOpen
import Derived.Lib.SmallJoins
import Derived.WalkSpells
namespace Go.Proofs.Ytfhpijemjcdhoaa.C
open Go.ChangeShapes Go.WideShapes Go.RowKit Go.Deep Go.Joins
/-- A slice of acts (four numbers each) that is read. -/
def ActRow (w : World) (a : Option Addr) (n : Nat) (z : Nat → Nat → Int) : Prop :=
  n ≤ 9223372036854775807 ∧ (0 < n → ∃ ad : Addr, a = some ad ∧ ad.block < w.heap.size ∧ ∀ i j, i < n → j < 4 → w.cell? (ad.add (i * 4 + j)) = some (.int .i64 (z i j)))
theorem list4 {α : Type} {l : List α} (h : l.length = 4) : ∃ a b c d, l = [a, b, c, d] := by
  match l, h with
  | [a, b, c, d], _ => exact ⟨a, b, c, d, rfl⟩
theorem act_cells {H : Type} {enc : TypeId × Value → H} {P : Program} {W : World} {base : Nat} {spare : Nat → Bool} {held : Bool} {e : TypeId} {f0 f1 f2 f3 : Field} {x : Addr} {i n : Nat} {cs : List Value} {y : DataW H × List MemPlace}
    (he : P.underlying e = some (.struct #[f0, f1, f2, f3])) (hone : oneCellFields P #[f0, f1, f2, f3] = true)
    (k0 : P.underlying f0.type = some (.int .i64)) (k1 : P.underlying f1.type = some (.int .i64)) (k2 : P.underlying f2.type = some (.int .i64)) (k3 : P.underlying f3.type = some (.int .i64))
    (h1 : W.cells? base (x.add (i * 4)) 4 = some cs) (h2 : DataW.trod enc P W base spare held n e cs = some y) : ∃ q : Nat → Int, ∀ j, j < 4 → W.cell? (x.add (i * 4 + j)) = some (.int .i64 (q j)) := by
  obtain ⟨_, hlen, hcell⟩ := World.cells?_some h1
  obtain ⟨xs, k, hk, hxy, _, hxl, hf⟩ := DataW.trod_struct he h2
  obtain ⟨v0, v1, v2, v3, rfl⟩ := list4 hlen
  obtain ⟨y0, y1, y2, y3, rfl⟩ := list4 (l := xs) (by simpa using hxl)
  obtain ⟨o0, c0⟩ := hone_of hone 0 f0 rfl
  obtain ⟨o1, c1⟩ := hone_of hone 1 f1 rfl
  obtain ⟨o2, c2⟩ := hone_of hone 2 f2 rfl
  obtain ⟨o3, c3⟩ := hone_of hone 3 f3 rfl
  have g0 := hf 0 f0 rfl
  have g1 := hf 1 f1 rfl
  have g2 := hf 2 f2 rfl
  have g3 := hf 3 f3 rfl
  simp [o0, c0] at g0
  simp [o1, c1] at g1
  simp [o2, c2] at g2
  simp [o3, c3] at g3
  obtain ⟨a0, e0, _⟩ := DataW.trod_int k0 g0
  obtain ⟨a1, e1, _⟩ := DataW.trod_int k1 g1
  obtain ⟨a2, e2, _⟩ := DataW.trod_int k2 g2
  obtain ⟨a3, e3, _⟩ := DataW.trod_int k3 g3
  simp at e0 e1 e2 e3
  subst e0 e1 e2 e3
  have q0 := hcell 0 (by omega)
  have q1 := hcell 1 (by omega)
  have q2 := hcell 2 (by omega)
  have q3 := hcell 3 (by omega)
  rw [add_add] at q0 q1 q2 q3
  refine ⟨fun j => match j with | 0 => a0 | 1 => a1 | 2 => a2 | _ => a3, fun j hj => ?_⟩
  match j, hj with
  | 0, _ => simpa using q0
  | 1, _ => simpa using q1
  | 2, _ => simpa using q2
  | 3, _ => simpa using q3
theorem open_acts {H : Type} {enc : TypeId × Value → H} {P : Program} {W : World} {base : Nat} {spare : Nat → Bool} {held : Bool} {t e : TypeId} {f0 f1 f2 f3 : Field} {a : Option Addr} {len cap : Nat} {d : DataW H} {ps : List MemPlace}
    (ht : P.underlying t = some (.slice e)) (he : P.underlying e = some (.struct #[f0, f1, f2, f3])) (ce : P.cellsOf e = 4) (hone : oneCellFields P #[f0, f1, f2, f3] = true)
    (k0 : P.underlying f0.type = some (.int .i64)) (k1 : P.underlying f1.type = some (.int .i64)) (k2 : P.underlying f2.type = some (.int .i64)) (k3 : P.underlying f3.type = some (.int .i64))
    (h : DataW.Trod enc P W base spare held t (.slice a len cap) d ps) : ∃ z, ActRow W a len z := by
  obtain ⟨fuel, hf⟩ := h
  rcases open_slice ht hf with ⟨hcs, _⟩ | ⟨x, l, c, m, n, D, Pl, hcs, _, hl, hm, hmm, _, hx⟩
  · simp [Value.cells] at hcs
    obtain ⟨rfl, rfl, rfl⟩ := hcs
    exact ⟨fun _ _ => 0, by omega, fun h => absurd h (by omega)⟩
  · simp [Value.cells] at hcs
    obtain ⟨rfl, rfl, rfl⟩ := hcs
    have hlm : len ≤ m := by rw [hmm]; split <;> omega
    rw [ce] at hx
    have each : ∀ i, i < m → ∃ q : Nat → Int, ∀ j, j < 4 → W.cell? (x.add (i * 4 + j)) = some (.int .i64 (q j)) := fun i hi => by
      obtain ⟨cs', h1, h2⟩ := hx i hi
      exact act_cells he hone k0 k1 k2 k3 h1 h2
    obtain ⟨q, hq⟩ := choose_lt each
    unfold maxLen at hm
    refine ⟨q, by omega, fun h0 => ⟨x, rfl, ?_, fun i j hi hj => hq i (by omega) j hj⟩⟩
    have := World.block_lt_of_cell? W _ (hq 0 (by omega) 0 (by omega))
    rwa [add_block] at this
theorem ActRow.below {w w' : World} {a : Option Addr} {n : Nat} {z : Nat → Nat → Int} (h : ActRow w a n z) (hb : Below w.heap.size w w') : ActRow w' a n z :=
  ⟨h.1, fun h0 => by
    obtain ⟨ad, e, hl, hc⟩ := h.2 h0
    exact ⟨ad, e, Nat.lt_of_lt_of_le hl hb.size, fun i j hi hj => cell_later hb (hc i j hi hj)⟩⟩
end Go.Proofs.Ytfhpijemjcdhoaa.C
