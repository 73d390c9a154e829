/- The reference's reader: rows of operators: plain facts. -/
import Derived.Test.YtnnhdkchdjddkaaParU
namespace Go.Proofs.Ytnnhdkchdjddkaa.C
open Go.RowKit
set_option linter.unusedSimpArgs false
set_option linter.unusedVariables false
theorem PFs_row {ts : List Tok} {m : Nat} {st : Rd} {l : List Ex} {r1 r : Rd × List Ex} (hm : m < 4) (h : PFs ts (m + 1) st l r1) (h2 : PFs ts (5 + m) r1.1 r1.2 r) : PFs ts m st l r := by
  obtain ⟨f, hf⟩ := h
  obtain ⟨g, hg⟩ := h2
  refine ⟨f + g + 1, ?_⟩
  rw [pF, if_pos hm, pF_add ts g hf]
  show pF ts (f + g) (5 + m) r1.1 r1.2 = some r
  rw [Nat.add_comm f g]
  exact pF_add ts f hg
theorem PFs_end {ts : List Tok} {m : Nat} {st : Rd} {l : List Ex} (hm : m < 4) (h : st.e ≠ 0 ∨ pickP ts st (levelP m) = 0) : PFs ts (5 + m) st l (st, l) := by
  refine ⟨1, ?_⟩
  rw [pF, if_neg (by omega), if_pos (by omega), show 5 + m - 5 = m by omega]
  by_cases h0 : st.e ≠ 0
  · rw [if_pos h0]
  · rw [if_neg h0, if_pos (h.resolve_left h0)]
theorem PFs_on {ts : List Tok} {m : Nat} {st : Rd} {l : List Ex} {r1 r : Rd × List Ex} (hm : m < 4) (h0 : st.e = 0) (hk : pickP ts st (levelP m) ≠ 0) (h1 : PFs ts (m + 1) { st with i := st.i + 1 } l r1)
    (h2 : PFs ts (5 + m) r1.1 (r1.2 ++ [nodeP (pickP ts st (levelP m)) ((l.length : Int) - 1) ((r1.2.length : Int) - 1) (tkP ts st.i).at_]) r) : PFs ts (5 + m) st l r := by
  obtain ⟨f, hf⟩ := h1
  obtain ⟨g, hg⟩ := h2
  refine ⟨f + g + 1, ?_⟩
  rw [pF, if_neg (by omega), if_pos (by omega), show 5 + m - 5 = m by omega, show 5 + m - 4 = m + 1 by omega, if_neg (by rw [h0]; simp), if_neg hk, pF_add ts g hf]
  show pF ts (f + g) (5 + m) r1.1 (r1.2 ++ _) = some r
  rw [Nat.add_comm f g]
  exact pF_add ts f hg
theorem levelP_ne {m j : Nat} {s : List UInt8} {k : Int} (h : (levelP m)[j]? = some (s, k)) : k ≠ 0 := by
  have hl := List.mem_of_getElem? h
  unfold levelP at hl
  split at hl
  · simp at hl; omega
  split at hl
  · simp at hl; omega
  split at hl
  · simp at hl; omega
  · simp at hl; omega
theorem levelP_len (m : Nat) : (levelP m).length ≤ 3 := by
  unfold levelP
  split
  · simp
  split
  · simp
  split
  · simp
  · simp
theorem pickP_miss {ts : List Tok} {st : Rd} {L : List (List UInt8 × Int)} {j : Nat} {s : List UInt8} {k : Int} (h : L[j]? = some (s, k)) (hq : isP ts st s = false) : pickP ts st (L.drop j) = pickP ts st (L.drop (j + 1)) := by
  obtain ⟨hj, e⟩ := List.getElem?_eq_some_iff.1 h
  rw [List.drop_eq_getElem_cons hj, e, pickP, if_neg (by rw [hq]; simp)]
theorem pickP_hit {ts : List Tok} {st : Rd} {L : List (List UInt8 × Int)} {j : Nat} {s : List UInt8} {k : Int} (h : L[j]? = some (s, k)) (hq : isP ts st s = true) : pickP ts st (L.drop j) = k := by
  obtain ⟨hj, e⟩ := List.getElem?_eq_some_iff.1 h
  rw [List.drop_eq_getElem_cons hj, e, pickP, if_pos hq]
end Go.Proofs.Ytnnhdkchdjddkaa.C
