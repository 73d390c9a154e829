/- Zones as functions of two places: what the program's and the reference's functions come to, and that they agree. Plain Lean: no program. -/
namespace Go.Proofs.Ytdmphpkiclfhhaa.Z
abbrev M := Nat → Nat → Int
def NONE : Int := 1099511627776
def upd (m : M) (i j : Nat) (v : Int) : M := fun a b => if a = i ∧ b = j then v else m a b
theorem upd_same (m : M) (i j : Nat) (v : Int) : upd m i j v i j = v := by simp [upd]
theorem upd_other (m : M) (i j : Nat) (v : Int) {a b : Nat} (h : ¬ (a = i ∧ b = j)) : upd m i j v a b = m a b := by simp [upd, h]
/-- The program's sum. -/
def sumZ (a b : Int) : Int := if 1099511627776 ≤ a ∨ 1099511627776 ≤ b then 1099511627776 else max (a + b) (-1099511627776)
/-- The reference's. -/
def plusZ (a b : Int) : Int := if 1099511627776 ≤ a ∨ 1099511627776 ≤ b then 1099511627776 else max (-1099511627776) (min (a + b) 1099511627776)
def clamp (x : Int) : Int := max (-1099511627776) (min x 1099511627776)
def clampM (m : M) : M := fun i j => clamp (m i j)
def diagM (m : M) (k : Nat) : M := fun i j => if i = j ∧ i < k then min (m i j) 0 else m i j
def rowN (m : M) (k i : Nat) : Nat → M
  | 0 => m
  | t + 1 => upd (rowN m k i t) i t (min (rowN m k i t i t) (sumZ (rowN m k i t i k) (rowN m k i t k t)))
def rowsN (m : M) (k n : Nat) : Nat → M
  | 0 => m
  | i + 1 => if 1099511627776 ≤ rowsN m k n i i k then rowsN m k n i else rowN (rowsN m k n i) k i n
def fwN (m : M) (n : Nat) : Nat → M
  | 0 => m
  | k + 1 => rowsN (fwN m n k) k n n
/-- closed, of a matrix. -/
def closeM (m : M) (n : Nat) : M := fwN (diagM m n) n n
def okM (m : M) (n : Nat) : Bool := decide (∀ i, i < n → 0 ≤ m i i)
/-- The reference's rows. -/
def rRowN (m : M) (k i : Nat) : Nat → M
  | 0 => m
  | t + 1 => upd (rRowN m k i t) i t (min (rRowN m k i t i t) (plusZ (rRowN m k i t i k) (rRowN m k i t k t)))
def rRowsN (m : M) (k n : Nat) : Nat → M
  | 0 => m
  | i + 1 => rRowN (rRowsN m k n i) k i n
def rfwN (m : M) (n : Nat) : Nat → M
  | 0 => m
  | k + 1 => rRowsN (rfwN m n k) k n n
/-- What the reference's first loop makes: row i, as far as j. -/
def rInit (m : M) (n : Nat) : M := fun i j => if i < n ∧ j < n then min (if i = j then min (m i j) 0 else m i j) 1099511627776 else m i j
def rCloseM (m : M) (n : Nat) : M := rfwN (rInit m n) n n
/-- Bounds that may be. -/
def Fit (m : M) (n : Nat) : Prop := ∀ i j, i < n → j < n → -1099511627776 ≤ m i j ∧ m i j ≤ 1099511627776
/-- Two that are alike within. -/
def Alike (m m' : M) (n : Nat) : Prop := ∀ i j, i < n → j < n → m i j = m' i j
theorem Alike.refl (m : M) (n : Nat) : Alike m m n := fun _ _ _ _ => rfl
def alikeB (m m' : M) (n : Nat) : Bool := decide (∀ i, i < n → ∀ j, j < n → m i j = m' i j)
theorem alikeB_true {m m' : M} {n : Nat} (h : Alike m m' n) : alikeB m m' n = true := decide_eq_true (fun i hi j hj => h i j hi hj)
theorem alikeB_false {m m' : M} {n : Nat} (h : ¬ Alike m m' n) : alikeB m m' n = false := decide_eq_false (fun q => h (fun i j hi hj => q i hi j hj))
theorem Fit.upd {m : M} {n i j : Nat} {v : Int} (h : Fit m n) (h1 : -1099511627776 ≤ v) (h2 : v ≤ 1099511627776) : Fit (upd m i j v) n := fun a b ha hb => by
  unfold Z.upd
  split
  · exact ⟨h1, h2⟩
  · exact h a b ha hb
theorem sum_fit (a b : Int) : -1099511627776 ≤ sumZ a b := by unfold sumZ; split <;> omega
theorem plus_fit (a b : Int) : -1099511627776 ≤ plusZ a b ∧ plusZ a b ≤ 1099511627776 := by unfold plusZ; split <;> omega
theorem rowN_fit {m : M} {n k i : Nat} (h : Fit m n) (hi : i < n) : ∀ t, t ≤ n → Fit (rowN m k i t) n
  | 0, _ => h
  | t + 1, ht => by
    have ih := rowN_fit h hi (k := k) t (by omega)
    have h1 := ih i t hi (by omega)
    have h2 := sum_fit (rowN m k i t i k) (rowN m k i t k t)
    exact ih.upd (by omega) (by omega)
theorem rRowN_fit {m : M} {n k i : Nat} (h : Fit m n) (hi : i < n) : ∀ t, t ≤ n → Fit (rRowN m k i t) n
  | 0, _ => h
  | t + 1, ht => by
    have ih := rRowN_fit h hi (k := k) t (by omega)
    have h1 := ih i t hi (by omega)
    have h2 := plus_fit (rRowN m k i t i k) (rRowN m k i t k t)
    exact ih.upd (by omega) (by omega)
theorem min_sum {x a b : Int} (h : x ≤ 1099511627776) : min x (sumZ a b) = min x (plusZ a b) := by
  unfold sumZ plusZ
  split
  · rfl
  · omega
/-- One row: the two are alike. -/
theorem row_alike {m m' : M} {n k i : Nat} (h : Alike m m' n) (hf : Fit m n) (hi : i < n) (hk : k < n) : ∀ t, t ≤ n → Alike (rowN m k i t) (rRowN m' k i t) n
  | 0, _ => h
  | t + 1, ht => by
    have ih := row_alike h hf hi hk t (by omega)
    have hft := rowN_fit hf hi (k := k) t (by omega)
    intro a b ha hb
    show upd _ i t _ a b = upd _ i t _ a b
    unfold upd
    split
    · rw [← ih i t hi (by omega), ← ih i k hi hk, ← ih k t hk (by omega)]
      exact min_sum (hft i t hi (by omega)).2
    · exact ih a b ha hb
/-- A row of which nothing comes. -/
theorem row_none {m : M} {n k i : Nat} (hf : Fit m n) (hi : i < n) (hk : k < n) (h : 1099511627776 ≤ m i k) : ∀ t, t ≤ n → Alike (rowN m k i t) m n
  | 0, _ => Alike.refl _ _
  | t + 1, ht => by
    have ih := row_none hf hi hk h t (by omega)
    intro a b ha hb
    show upd _ i t _ a b = _
    unfold upd
    split
    · rename_i e
      obtain ⟨rfl, rfl⟩ := e
      rw [ih a b ha hb, ih a k ha hk]
      have h1 := hf a b ha hb
      unfold sumZ
      rw [if_pos (.inl h)]
      omega
    · exact ih a b ha hb
theorem Alike.fit {m m' : M} {n : Nat} (h : Alike m m' n) (hf : Fit m n) : Fit m' n := fun i j hi hj => by rw [← h i j hi hj]; exact hf i j hi hj
theorem Alike.symm {m m' : M} {n : Nat} (h : Alike m m' n) : Alike m' m n := fun i j hi hj => (h i j hi hj).symm
theorem Alike.trans {m m' m'' : M} {n : Nat} (h : Alike m m' n) (h' : Alike m' m'' n) : Alike m m'' n := fun i j hi hj => (h i j hi hj).trans (h' i j hi hj)
theorem rowsN_fit {m : M} {n k : Nat} (hf : Fit m n) : ∀ i, i ≤ n → Fit (rowsN m k n i) n
  | 0, _ => hf
  | i + 1, hi => by
    have ih := rowsN_fit hf (k := k) i (by omega)
    show Fit (if _ then _ else _) n
    split
    · exact ih
    · exact rowN_fit ih (by omega) n (Nat.le_refl _)
theorem rows_alike {m m' : M} {n k : Nat} (h : Alike m m' n) (hf : Fit m n) (hk : k < n) : ∀ i, i ≤ n → Alike (rowsN m k n i) (rRowsN m' k n i) n
  | 0, _ => h
  | i + 1, hi => by
    have ih := rows_alike h hf hk i (by omega)
    have hfi := rowsN_fit hf (k := k) i (by omega)
    show Alike (if _ then _ else _) (rRowN _ k i n) n
    split
    · rename_i c
      exact (row_none hfi (by omega) hk c n (Nat.le_refl _)).symm.trans (row_alike ih hfi (by omega) hk n (Nat.le_refl _))
    · exact row_alike ih hfi (by omega) hk n (Nat.le_refl _)
theorem fwN_fit {m : M} {n : Nat} (hf : Fit m n) : ∀ k, k ≤ n → Fit (fwN m n k) n
  | 0, _ => hf
  | k + 1, hk => rowsN_fit (fwN_fit hf k (by omega)) n (Nat.le_refl _)
theorem fw_alike {m m' : M} {n : Nat} (h : Alike m m' n) (hf : Fit m n) : ∀ k, k ≤ n → Alike (fwN m n k) (rfwN m' n k) n
  | 0, _ => h
  | k + 1, hk => rows_alike (fw_alike h hf k (by omega)) (fwN_fit hf k (by omega)) (by omega) n (Nat.le_refl _)
theorem clampM_fit (m : M) (n : Nat) : Fit (clampM m) n := fun i j _ _ => by unfold clampM clamp; omega
theorem diagM_fit {m : M} {n : Nat} (h : Fit m n) : Fit (diagM m n) n := fun i j hi hj => by
  have := h i j hi hj
  unfold diagM; split <;> omega
theorem closeM_fit {m : M} {n : Nat} (h : Fit m n) : Fit (closeM m n) n := fwN_fit (diagM_fit h) n (Nat.le_refl _)
/-- What Close comes to is the document's. -/
theorem close_alike {m : M} {n : Nat} (h : Fit m n) : Alike (closeM (clampM m) n) (rCloseM m n) n := by
  refine fw_alike (fun i j hi hj => ?_) (diagM_fit (clampM_fit m n)) n (Nat.le_refl _)
  have := h i j hi hj
  unfold diagM clampM clamp rInit
  rw [if_pos (And.intro hi hj)]
  by_cases e : i = j
  · rw [if_pos ⟨e, hi⟩, if_pos e]; omega
  · rw [if_neg (fun q => e q.1), if_neg e]; omega
theorem ok_alike {m m' : M} {n : Nat} (h : Alike m m' n) : okM m n = okM m' n := by
  unfold okM
  rw [decide_eq_decide]
  exact ⟨fun q i hi => by rw [← h i i hi hi]; exact q i hi, fun q i hi => by rw [h i i hi hi]; exact q i hi⟩
end Go.Proofs.Ytdmphpkiclfhhaa.Z
