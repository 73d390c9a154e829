/- Who keeps the bounds of a zone keeps the closed one's; bounds that go round below nought. Plain Lean: no program. -/
import Derived.Test.YtdmphpkiclfhhaaZTight
namespace Go.Proofs.Ytdmphpkiclfhhaa.Z
/-- Numbers that keep all bounds. -/
def Keeps (X : Nat → Int) (m : M) (n : Nat) : Prop := ∀ i j, i < n → j < n → m i j < 1099511627776 → X i - X j ≤ m i j
theorem Keeps.upd {X : Nat → Int} {m : M} {n : Nat} (h : Keeps X m n) {i j : Nat} {v : Int} (hv : v < 1099511627776 → X i - X j ≤ v) : Keeps X (upd m i j v) n := fun a b ha hb => by
  unfold Z.upd
  split
  · rename_i e; obtain ⟨rfl, rfl⟩ := e; exact hv
  · exact h a b ha hb
theorem Keeps.alike {X : Nat → Int} {m m' : M} {n : Nat} (h : Keeps X m n) (ha : Alike m m' n) : Keeps X m' n := fun i j hi hj => by rw [← ha i j hi hj]; exact h i j hi hj
theorem Keeps.min_sum {X : Nat → Int} {m : M} {n : Nat} (h : Keeps X m n) {i j k : Nat} (hi : i < n) (hj : j < n) (hk : k < n) : min (m i j) (sumZ (m i k) (m k j)) < 1099511627776 → X i - X j ≤ min (m i j) (sumZ (m i k) (m k j)) := by
  intro hlt
  have h1 := h i j hi hj
  have h2 := h i k hi hk
  have h3 := h k j hk hj
  have h4 : sumZ (m i k) (m k j) < 1099511627776 → X i - X j ≤ sumZ (m i k) (m k j) := by
    unfold sumZ
    split
    · intro q; omega
    · intro _; have := h2 (by omega); have := h3 (by omega); omega
  by_cases c1 : m i j < 1099511627776
  · have := h1 c1
    by_cases c2 : sumZ (m i k) (m k j) < 1099511627776
    · have := h4 c2; omega
    · omega
  · have := h4 (by omega); omega
theorem Keeps.row {X : Nat → Int} {m : M} {n k i : Nat} (h : Keeps X m n) (hi : i < n) (hk : k < n) : ∀ t, t ≤ n → Keeps X (rowN m k i t) n
  | 0, _ => h
  | t + 1, ht => by
    have ih := Keeps.row h hi hk t (by omega)
    exact ih.upd (ih.min_sum hi (by omega) hk)
theorem Keeps.rows {X : Nat → Int} {m : M} {n k : Nat} (h : Keeps X m n) (hk : k < n) : ∀ i, i ≤ n → Keeps X (rowsN m k n i) n
  | 0, _ => h
  | i + 1, hi => by
    have ih := Keeps.rows h hk i (by omega)
    show Keeps X (if _ then _ else _) n
    split
    · exact ih
    · exact ih.row (by omega) hk n (Nat.le_refl _)
theorem Keeps.fw {X : Nat → Int} {m : M} {n : Nat} (h : Keeps X m n) : ∀ k, k ≤ n → Keeps X (fwN m n k) n
  | 0, _ => h
  | k + 1, hk => (h.fw k (by omega)).rows (by omega) n (Nat.le_refl _)
theorem Keeps.diag {X : Nat → Int} {m : M} {n : Nat} (h : Keeps X m n) (k : Nat) : Keeps X (diagM m k) n := fun i j hi hj => by
  unfold diagM
  split
  · rename_i e; obtain ⟨rfl, _⟩ := e; intro q; have := h i i hi hi; omega
  · exact h i j hi hj
theorem Keeps.clamp {X : Nat → Int} {m : M} {n : Nat} (h : Keeps X m n) : Keeps X (clampM m) n := fun i j hi hj => by
  unfold clampM Z.clamp
  intro q; have := h i j hi hj (by omega); omega
theorem Keeps.close {X : Nat → Int} {m : M} {n : Nat} (h : Keeps X m n) : Keeps X (closeM m n) n := (h.diag n).fw n (Nat.le_refl _)
/-- Who keeps the closed bounds keeps the bounds. -/
theorem Keeps.of_le {X : Nat → Int} {m m' : M} {n : Nat} (h : Keeps X m n) (hle : ∀ i j, i < n → j < n → m i j ≤ m' i j) : Keeps X m' n := fun i j hi hj q => by
  have := hle i j hi hj
  have := h i j hi hj (by omega)
  omega
theorem close_diag_le (m : M) (n : Nat) {i : Nat} (hi : i < n) : closeM m n i i ≤ 0 := by
  have h1 := fwN_le (diagM m n) n n i i
  have h2 : diagM m n i i ≤ 0 := by unfold diagM; rw [if_pos ⟨rfl, hi⟩]; omega
  unfold closeM; omega
theorem Keeps.ok {X : Nat → Int} {m : M} {n : Nat} (h : Keeps X m n) : okM (closeM m n) n = true := decide_eq_true (fun i hi => by
  have := h.close i i hi hi (by have := close_diag_le m n hi; omega)
  omega)
/-- Bounds never rise within a row. -/
theorem rowN_mono (E : M) (k i t : Nat) : ∀ d a b, rowN E k i (t + d) a b ≤ rowN E k i t a b
  | 0, _, _ => Int.le_refl _
  | d + 1, a, b => by
    have ih := rowN_mono E k i t d
    show upd _ i (t + d) _ a b ≤ _
    unfold upd
    split
    · rename_i e; obtain ⟨rfl, rfl⟩ := e; exact Int.le_trans (Int.min_le_left _ _) (ih _ _)
    · exact ih a b
theorem rowsN_mono (E : M) (k n i : Nat) : ∀ d a b, rowsN E k n (i + d) a b ≤ rowsN E k n i a b
  | 0, _, _ => Int.le_refl _
  | d + 1, a, b => by
    have ih := rowsN_mono E k n i d
    show (if _ then _ else _ : M) a b ≤ _
    split
    · exact ih a b
    · exact Int.le_trans (rowN_le _ _ _ _ _ _) (ih a b)
/-- Two bounds that go round below nought: there is nothing in it. -/
theorem close_none {m : M} {n a b : Nat} (ha : a < n) (hb : b < n) (h1 : m a b < 1099511627776) (h2 : m b a < 1099511627776) (h3 : m a b + m b a < 0) : okM (closeM m n) n = false := by
  refine decide_eq_false (fun h => ?_)
  have hd : ∀ i j, diagM m n i j ≤ m i j := fun i j => by unfold diagM; split <;> omega
  obtain ⟨D, hD⟩ : ∃ D, fwN (diagM m n) n b = D := ⟨_, rfl⟩
  have hDl : ∀ i j, D i j ≤ m i j := fun i j => by rw [← hD]; exact Int.le_trans (fwN_le _ _ _ _ _) (hd i j)
  obtain ⟨E, hE⟩ : ∃ E, rowsN D b n a = E := ⟨_, rfl⟩
  have hEl : ∀ i j, E i j ≤ m i j := fun i j => by rw [← hE]; exact Int.le_trans (rowsN_le _ _ _ _ _ _) (hDl i j)
  have h5 : rowsN D b n (a + 1) = rowN E b a n := by
    show (if _ then _ else _) = _
    rw [hE, if_neg (by have := hEl a b; omega)]
  have h6 : rowN E b a (a + 1) a a < 0 := by
    show upd _ a a _ a a < 0
    rw [upd_same]
    have q1 := Int.le_trans (rowN_le E b a a a b) (hEl a b)
    have q2 := Int.le_trans (rowN_le E b a a b a) (hEl b a)
    have : sumZ (rowN E b a a a b) (rowN E b a a b a) < 0 := by unfold sumZ; rw [if_neg (by omega)]; omega
    omega
  have h7 := rowN_mono E b a (a + 1) (n - (a + 1)) a a
  rw [show a + 1 + (n - (a + 1)) = n by omega, ← h5] at h7
  have h8 := rowsN_mono D b n (a + 1) (n - (a + 1)) a a
  rw [show a + 1 + (n - (a + 1)) = n by omega] at h8
  have h9 : fwN (diagM m n) n (b + 1) a a = rowsN D b n n a a := by show rowsN (fwN (diagM m n) n b) b n n a a = _; rw [hD]
  have h10 := fwN_mono (diagM m n) n (b + 1) (n - (b + 1)) a a
  rw [show b + 1 + (n - (b + 1)) = n by omega] at h10
  have h11 : 0 ≤ closeM m n a a := h a ha
  unfold closeM at h11
  omega
theorem clamp_le {m : M} {n : Nat} (hf : Fit m n) : Alike (clampM m) m n := fun i j hi hj => by have := hf i j hi hj; unfold clampM clamp; omega
theorem close_none' {m : M} {n a b : Nat} (hf : Fit m n) (ha : a < n) (hb : b < n) (h1 : m a b < 1099511627776) (h2 : m b a < 1099511627776) (h3 : m a b + m b a < 0) : okM (closeM (clampM m) n) n = false := by
  have e1 := clamp_le hf a b ha hb
  have e2 := clamp_le hf b a hb ha
  exact close_none ha hb (by omega) (by omega) (by omega)
end Go.Proofs.Ytdmphpkiclfhhaa.Z
