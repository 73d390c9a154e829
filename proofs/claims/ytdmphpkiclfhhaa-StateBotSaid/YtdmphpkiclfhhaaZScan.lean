/- Matrices that come in: r14.square, r14.Square, l16.small: walks. Printed by wip/gen_zscan.py. -/
import Derived.Test.YtdmphpkiclfhhaaZRead
namespace Go.Proofs.Ytdmphpkiclfhhaa.C
open Go.RowKit
set_option linter.unusedSimpArgs false
set_option linter.unusedVariables false
/-- Any matrix that is read. -/
def GM (w : World) (A : Option Addr) (n : Nat) (L : Nat → Nat) (m : Z.M) : Prop :=
  n ≤ 9223372036854775807 ∧ (∀ i, i < n → L i ≤ 9223372036854775807) ∧ (0 < n → ∃ (a : Addr) (R : Nat → Option Addr) (C : Nat → Nat), A = some a ∧ (∀ i, i < n → w.cell? (a.add i) = some (.slice (R i) (L i) (C i)) ∧ L i ≤ C i) ∧ ∀ i j, i < n → j < L i → ∃ r, R i = some r ∧ w.cell? (r.add j) = some (.int .i64 (m i j)))
theorem GM.below {w w' : World} {A : Option Addr} {n : Nat} {L : Nat → Nat} {m : Z.M} (h : GM w A n L m) (hb : Below w.heap.size w w') : GM w' A n L m :=
  ⟨h.1, h.2.1, fun h0 => by
    obtain ⟨a, R, C, e, h1, h2⟩ := h.2.2 h0
    exact ⟨a, R, C, e, fun i hi => ⟨cell_later hb (h1 i hi).1, (h1 i hi).2⟩, fun i j hi hj => by obtain ⟨r, e2, h3⟩ := h2 i j hi hj; exact ⟨r, e2, cell_later hb h3⟩⟩⟩
theorem GM.rm {w : World} {A : Option Addr} {n : Nat} {L : Nat → Nat} {m : Z.M} (h : GM w A n L m) (hn : 0 < n) (hL : ∀ i, i < n → L i = n) : ∃ a, A = some a ∧ RM w a n m := by
  obtain ⟨a, R, C, e, h1, h2⟩ := h.2.2 hn
  refine ⟨a, e, fun i => (R i).getD ⟨0, 0, none⟩, C, fun i hi => ?_, fun i j hi hj => ?_⟩
  · obtain ⟨r, e2, _⟩ := h2 i 0 hi (by rw [hL i hi]; exact hn)
    have := h1 i hi
    rw [hL i hi, e2] at this
    simp only [e2, Option.getD_some]
    exact this
  · obtain ⟨r, e2, h3⟩ := h2 i j hi (by rw [hL i hi]; exact hj)
    simp only [e2, Option.getD_some]
    exact h3
def sqB (n : Nat) (L : Nat → Nat) : Bool := decide (∀ i, i < n → L i = n)
def fitB (n : Nat) (L : Nat → Nat) (m : Z.M) : Bool := decide (∀ i, i < n → ∀ j, j < L i → -1099511627776 ≤ m i j ∧ m i j ≤ 1099511627776)
def smallB (n : Nat) (L : Nat → Nat) (m : Z.M) : Bool := decide (∀ i, i < n → ∀ j, j < L i → m i j = 1099511627776 ∨ (-17179869184 ≤ m i j ∧ m i j ≤ 17179869184))
end Go.Proofs.Ytdmphpkiclfhhaa.C
