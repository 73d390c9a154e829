/- What a row's arguments read as: slices of whole numbers. Over any program. -/
import Derived.WalkKit
import Derived.ProofKit
import Derived.ChangeOld
import Derived.ChangeSlices
import Derived.Below
namespace Go.Proofs.Ytdmphpkiclfhhaa.C
open Go.ChangeShapes Go.WideShapes Go.RowKit
/-- A slice of whole numbers that is read: nil, empty and other slices alike. -/
def IntRow (w : World) (k : IntKind) (a : Option Addr) (n : Nat) (zs : List Int) : Prop :=
  zs.length = n ∧ n ≤ maxLen ∧ (∀ z ∈ zs, (Lit.int k z).wf = true) ∧ (0 < n → ∃ ad, a = some ad ∧ ad.block < w.heap.size ∧ ∀ j, j < n → w.cell? (ad.add j) = some (.int k (zs.getD j 0)))
theorem add_block (ad : Addr) (j : Nat) : (ad.add j).block = ad.block := by unfold Addr.add; split <;> rfl
theorem open_row {H : Type} {enc : TypeId × Value → H} {P : Program} {W : World} {base : Nat} {spare : Nat → Bool} {held : Bool} {t e : TypeId} {k : IntKind} {a : Option Addr} {len cap : Nat} {d : DataW H} {ps : List MemPlace}
    (ht : P.underlying t = some (.slice e)) (he : P.underlying e = some (.int k)) (hc : P.cellsOf e = 1) (h : DataW.Trod enc P W base spare held t (.slice a len cap) d ps) : ∃ zs, IntRow W k a len zs := by
  obtain ⟨fuel, hf⟩ := h
  rcases open_ints ht he hc hf with ⟨hcs, _⟩ | ⟨x, l, c, zs, hcs, _, hl, hm, hz, _, hcell, hwz⟩
  · simp [Value.cells] at hcs
    obtain ⟨rfl, rfl, rfl⟩ := hcs
    exact ⟨[], rfl, by simp [maxLen], by simp, fun h => absurd h (by omega)⟩
  · simp [Value.cells] at hcs
    obtain ⟨rfl, rfl, rfl⟩ := hcs
    have hlz : len ≤ zs.length := by rw [hz]; split <;> omega
    refine ⟨zs.take len, by simp; omega, by omega, fun z hz' => hwz z (List.mem_of_mem_take hz'), fun h0 => ⟨x, rfl, ?_, fun j hj => ?_⟩⟩
    · have := World.block_lt_of_cell? W _ (hcell 0 (by omega))
      rwa [add_block] at this
    · rw [hcell j (by omega)]
      simp [List.getD_eq_getElem?_getD, hj]
theorem IntRow.below {w w' : World} {k : IntKind} {a : Option Addr} {n : Nat} {zs : List Int} (h : IntRow w k a n zs) (hb : Below w.heap.size w w') : IntRow w' k a n zs :=
  ⟨h.1, h.2.1, h.2.2.1, fun h0 => by
    obtain ⟨ad, e, hl, hc⟩ := h.2.2.2 h0
    exact ⟨ad, e, Nat.lt_of_lt_of_le hl hb.size, fun j hj => (hb.cell (by rw [add_block]; exact hl)).trans (hc j hj)⟩⟩
theorem IntRow.wf {w : World} {k : IntKind} {a : Option Addr} {n : Nat} {zs : List Int} (h : IntRow w k a n zs) {j : Nat} (hj : j < n) : (Lit.int k (zs.getD j 0)).wf = true := by
  have hl : j < zs.length := by rw [h.1]; exact hj
  refine h.2.2.1 _ ?_
  rw [List.getD_eq_getElem?_getD, List.getElem?_eq_getElem hl]
  exact List.getElem_mem hl
end Go.Proofs.Ytdmphpkiclfhhaa.C
