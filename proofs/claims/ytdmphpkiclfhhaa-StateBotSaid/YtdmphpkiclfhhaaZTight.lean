/- Closed bounds are the shortest ways (16.1, 16.4): plain Lean. -/
import Derived.Test.YtdmphpkiclfhhaaZPure
namespace Go.Proofs.Ytdmphpkiclfhhaa.Z
/-- One phase, all at once. -/
def sim (D : M) (k : Nat) : M := fun i j => min (D i j) (sumZ (D i k) (D k j))
theorem sum_zero_r {a : Int} (h : -1099511627776 ≤ a ∧ a ≤ 1099511627776) : sumZ a 0 = a := by unfold sumZ; split <;> omega
theorem sum_zero_l {a : Int} (h : -1099511627776 ≤ a ∧ a ≤ 1099511627776) : sumZ 0 a = a := by unfold sumZ; split <;> omega
/-- One row in place, where the phase's own diagonal is nought. -/
theorem row_sim {D E : M} {n k i : Nat} (hf : Fit D n) (hk : k < n) (hi : i < n) (hd : D k k = 0) (hr : ∀ j, j < n → E i j = D i j) (hkr : ∀ j, j < n → E k j = D k j) :
    ∀ t, t ≤ n → (∀ j, j < n → rowN E k i t i j = if j < t then sim D k i j else D i j) ∧ (∀ a j, a ≠ i → rowN E k i t a j = E a j)
  | 0, _ => ⟨fun j hj => by rw [if_neg (by omega)]; exact hr j hj, fun _ _ _ => rfl⟩
  | t + 1, ht => by
    obtain ⟨h1, h2⟩ := row_sim hf hk hi hd hr hkr t (by omega)
    have fik := hf i k hi hk
    have eik : rowN E k i t i k = D i k := by
      rw [h1 k hk]
      split
      · unfold sim; rw [hd, sum_zero_r fik]; omega
      · rfl
    have ekt : rowN E k i t k t = D k t := by
      by_cases e : k = i
      · subst e
        rw [h1 t (by omega), if_neg (by omega)]
      · rw [h2 k t e]; exact hkr t (by omega)
    refine ⟨fun j hj => ?_, fun a j ha => ?_⟩
    · show upd _ i t _ i j = _
      by_cases e : j = t
      · subst e
        rw [upd_same, if_pos (by omega), eik, ekt, h1 j hj, if_neg (by omega)]
        rfl
      · rw [upd_other _ _ _ _ (fun q => e q.2), h1 j hj]
        by_cases e2 : j < t
        · rw [if_pos e2, if_pos (by omega)]
        · rw [if_neg e2, if_neg (by omega)]
    · show upd _ i t _ a j = _
      rw [upd_other _ _ _ _ (fun q => ha q.1)]
      exact h2 a j ha
theorem sim_k {D : M} {n k : Nat} (hf : Fit D n) (hk : k < n) (hd : D k k = 0) {j : Nat} (hj : j < n) : sim D k k j = D k j := by
  have := hf k j hk hj
  unfold sim; rw [hd, sum_zero_l this]; omega
theorem rows_sim {D : M} {n k : Nat} (hf : Fit D n) (hk : k < n) (hd : D k k = 0) : ∀ r, r ≤ n → ∀ i j, i < n → j < n → rowsN D k n r i j = if i < r then sim D k i j else D i j
  | 0, _ => fun i j _ _ => by rw [if_neg (by omega)]; rfl
  | r + 1, hr => by
    have ih := rows_sim hf hk hd r (by omega)
    have hrow : ∀ j, j < n → rowsN D k n r r j = D r j := fun j hj => by rw [ih r j (by omega) hj, if_neg (by omega)]
    have hkr : ∀ j, j < n → rowsN D k n r k j = D k j := fun j hj => by
      rw [ih k j hk hj]
      split
      · exact sim_k hf hk hd hj
      · rfl
    intro i j hi hj
    show (if 1099511627776 ≤ rowsN D k n r r k then rowsN D k n r else rowN (rowsN D k n r) k r n) i j = _
    by_cases c : 1099511627776 ≤ rowsN D k n r r k
    · rw [if_pos c, ih i j hi hj]
      rw [hrow k hk] at c
      by_cases e : i = r
      · subst e
        rw [if_neg (by omega), if_pos (by omega)]
        have := hf i j hi hj
        unfold sim sumZ
        rw [if_pos (.inl c)]; omega
      · by_cases e2 : i < r
        · rw [if_pos e2, if_pos (by omega)]
        · rw [if_neg e2, if_neg (by omega)]
    · rw [if_neg c]
      obtain ⟨h1, h2⟩ := row_sim hf hk (by omega : r < n) hd hrow hkr n (Nat.le_refl _)
      by_cases e : i = r
      · subst e
        rw [h1 j hj, if_pos hj, if_pos (by omega)]
      · rw [h2 i j e, ih i j hi hj]
        by_cases e2 : i < r
        · rw [if_pos e2, if_pos (by omega)]
        · rw [if_neg e2, if_neg (by omega)]
/-- Bounds never rise. -/
theorem rowN_le (E : M) (k i : Nat) : ∀ t a b, rowN E k i t a b ≤ E a b
  | 0, _, _ => Int.le_refl _
  | t + 1, a, b => by
    have ih := rowN_le E k i t
    show upd _ i t _ a b ≤ _
    unfold upd
    split
    · rename_i e; obtain ⟨rfl, rfl⟩ := e; have := ih a b; omega
    · exact ih a b
theorem rowsN_le (E : M) (k n : Nat) : ∀ r a b, rowsN E k n r a b ≤ E a b
  | 0, _, _ => Int.le_refl _
  | r + 1, a, b => by
    have ih := rowsN_le E k n r
    show (if _ then _ else _ : M) a b ≤ _
    split
    · exact ih a b
    · exact Int.le_trans (rowN_le _ _ _ _ _ _) (ih a b)
theorem fwN_le (E : M) (n : Nat) : ∀ k a b, fwN E n k a b ≤ E a b
  | 0, _, _ => Int.le_refl _
  | k + 1, a, b => Int.le_trans (rowsN_le _ _ _ _ _ _) (fwN_le E n k a b)
theorem fwN_mono (E : M) (n k : Nat) : ∀ d a b, fwN E n (k + d) a b ≤ fwN E n k a b
  | 0, _, _ => Int.le_refl _
  | d + 1, a, b => Int.le_trans (rowsN_le _ _ _ _ _ _) (fwN_mono E n k d a b)
def W : Int := 17179869184
/-- Who stands on the way: numbers below k, each once. -/
def Wit (D : M) (n k i j : Nat) : Prop := ∃ S : List Nat, S.Nodup ∧ (∀ l ∈ S, l < k ∧ l < n ∧ D i l < 1099511627776 ∧ D l j < 1099511627776 ∧ D i l + D l j ≤ D i j) ∧ -(((S.length : Int) + 1) * 17179869184) ≤ D i j ∧ D i j ≤ ((S.length : Int) + 1) * 17179869184
structure Inv (D : M) (n k : Nat) : Prop where
  fit : Fit D n
  diag : ∀ i, i < n → D i i = 0
  tri : ∀ i j l, i < n → j < n → l < k → l < n → D i l < 1099511627776 → D l j < 1099511627776 → D i j ≤ D i l + D l j
  wit : ∀ i j, i < n → j < n → D i j < 1099511627776 → Wit D n k i j
theorem nodup_len : ∀ {k : Nat} {S : List Nat}, S.Nodup → (∀ l ∈ S, l < k) → S.length ≤ k
  | 0, S, _, hk => by
    cases S with
    | nil => exact Nat.le_refl _
    | cons a r => exact absurd (hk a List.mem_cons_self) (by omega)
  | k + 1, S, h, hk => by
    by_cases hm : k ∈ S
    · have h1 := nodup_len (k := k) (h.erase k) (fun l hl => by
        have h2 := (h.mem_erase_iff).1 hl
        have h3 := hk l h2.2
        have := h2.1
        omega)
      have h4 := List.length_erase_of_mem hm
      omega
    · have := nodup_len (k := k) h (fun l hl => by
        have h3 := hk l hl
        by_cases e : l = k
        · subst e; exact absurd hl hm
        · omega)
      omega
theorem Inv.bound {D : M} {n k : Nat} (h : Inv D n k) (hn : n ≤ 8) {i j : Nat} (hi : i < n) (hj : j < n) (hf : D i j < 1099511627776) : -154618822656 ≤ D i j ∧ D i j ≤ 154618822656 := by
  obtain ⟨S, h1, h2, h3, h4⟩ := h.wit i j hi hj hf
  have := nodup_len (k := n) h1 (fun l hl => (h2 l hl).2.1)
  omega
/-- The phase of a closed matrix, as it is. -/
theorem sim_val {D : M} {n k : Nat} (h : Inv D n k) (hn : n ≤ 8) (hk : k < n) {i j : Nat} (hi : i < n) (hj : j < n) :
    sim D k i j = if D i k < 1099511627776 ∧ D k j < 1099511627776 then min (D i j) (D i k + D k j) else D i j := by
  have f := h.fit i j hi hj
  unfold sim sumZ
  by_cases c : D i k < 1099511627776 ∧ D k j < 1099511627776
  · have b1 := h.bound hn hi hk c.1
    have b2 := h.bound hn hk hj c.2
    rw [if_neg (by omega), if_pos c]
    omega
  · rw [if_pos (by omega), if_neg c]
    omega
theorem Inv.step {D E : M} {n k : Nat} (h : Inv D n k) (hn : n ≤ 8) (hk : k < n) (hE : ∀ i j, i < n → j < n → E i j = sim D k i j) (hdg : ∀ i, i < n → 0 ≤ E i i) (hfE : Fit E n) : Inv E n (k + 1) := by
  have hv := fun {i j : Nat} (hi : i < n) (hj : j < n) => (hE i j hi hj).trans (sim_val h hn hk hi hj)
  have hle : ∀ {i j : Nat}, i < n → j < n → E i j ≤ D i j := fun hi hj => by rw [hv hi hj]; split <;> omega
  have hkk := h.diag k hk
  have hEk : ∀ {i : Nat}, i < n → E i k = D i k := fun {i} hi => by
    rw [hv hi hk, hkk]; split <;> omega
  have hkE : ∀ {j : Nat}, j < n → E k j = D k j := fun {j} hj => by
    rw [hv hk hj, hkk]; split <;> omega
  -- the round trip of any l below k
  have trip : ∀ l, l < k → l < n → D k l < 1099511627776 → D l k < 1099511627776 → 0 ≤ D k l + D l k := fun l hl hln h1 h2 => by
    have := h.tri k k l hk hk hl hln h1 h2
    omega
  refine ⟨hfE, fun i hi => ?_, fun i j l hi hj hl hln h1 h2 => ?_, fun i j hi hj hf => ?_⟩
  · have h1 := hle hi hi
    have h2 := hdg i hi
    have h3 := h.diag i hi
    omega
  · -- the triangle
    by_cases e : l = k
    · subst e
      rw [hEk hi] at h1 ⊢
      rw [hkE hj] at h2 ⊢
      rw [hv hi hj, if_pos ⟨h1, h2⟩]
      omega
    · have hlk : l < k := by omega
      have a1 := hv hi hln
      have a2 := hv hln hj
      -- what E i j is at most
      have up1 : D i k < 1099511627776 → D k j < 1099511627776 → E i j ≤ D i k + D k j := fun q1 q2 => by rw [hv hi hj, if_pos ⟨q1, q2⟩]; omega
      have up0 := hle hi hj
      by_cases c1 : D i k < 1099511627776 ∧ D k l < 1099511627776
      · rw [if_pos c1] at a1
        by_cases c2 : D l k < 1099511627776 ∧ D k j < 1099511627776
        · rw [if_pos c2] at a2
          have tr := trip l hlk hln c1.2 c2.1
          have u := up1 c1.1 c2.2
          by_cases d1 : D i l < 1099511627776
          · have t1 : D l j < 1099511627776 → E i j ≤ D i l + D l j := fun q => by have := h.tri i j l hi hj hlk hln d1 q; omega
            have t2 := h.tri i k l hi hk hlk hln d1 c2.1
            by_cases d2 : D l j < 1099511627776
            · have t1' := t1 d2
              have t3 := h.tri k j l hk hj hlk hln c1.2 d2
              omega
            · have b := (h.fit l j hln hj)
              have b1 := h.bound hn hln hk c2.1
              have b2 := h.bound hn hk hj c2.2
              omega
          · have b0 := h.fit i l hi hln
            have b1 := h.bound hn hi hk c1.1
            have b2 := h.bound hn hk hln c1.2
            by_cases d2 : D l j < 1099511627776
            · have t3 := h.tri k j l hk hj hlk hln c1.2 d2
              omega
            · have b := (h.fit l j hln hj)
              have b3 := h.bound hn hln hk c2.1
              have b4 := h.bound hn hk hj c2.2
              omega
        · rw [if_neg c2] at a2
          have d2 : D l j < 1099511627776 := by omega
          have t3 := h.tri k j l hk hj hlk hln c1.2 d2
          have b5 := h.bound hn hk hln c1.2
          have b6 := h.bound hn hln hj d2
          have u := up1 c1.1 (by omega)
          by_cases d1 : D i l < 1099511627776
          · have t1 := h.tri i j l hi hj hlk hln d1 d2
            omega
          · have b0 := h.fit i l hi hln
            have b1 := h.bound hn hi hk c1.1
            omega
      · rw [if_neg c1] at a1
        have d1 : D i l < 1099511627776 := by omega
        by_cases c2 : D l k < 1099511627776 ∧ D k j < 1099511627776
        · rw [if_pos c2] at a2
          have t2 := h.tri i k l hi hk hlk hln d1 c2.1
          have b5 := h.bound hn hi hln d1
          have b6 := h.bound hn hln hk c2.1
          have u := up1 (by omega) c2.2
          by_cases d2 : D l j < 1099511627776
          · have t1 := h.tri i j l hi hj hlk hln d1 d2
            omega
          · have b0 := h.fit l j hln hj
            have b1 := h.bound hn hk hj c2.2
            omega
        · rw [if_neg c2] at a2
          have d2 : D l j < 1099511627776 := by omega
          have t1 := h.tri i j l hi hj hlk hln d1 d2
          omega
  · -- who stands on the way
    have a := hv hi hj
    by_cases c : D i k < 1099511627776 ∧ D k j < 1099511627776 ∧ D i k + D k j < D i j
    · rw [if_pos ⟨c.1, c.2.1⟩] at a
      have a' : E i j = D i k + D k j := by omega
      obtain ⟨S1, n1, p1, q1, q1'⟩ := h.wit i k hi hk c.1
      obtain ⟨S2, n2, p2, q2, q2'⟩ := h.wit k j hk hj c.2.1
      refine ⟨k :: (S1 ++ S2), ?_, ?_, ?_, ?_⟩
      · rw [List.nodup_cons, List.nodup_append]
        refine ⟨fun hm => ?_, n1, n2, fun x hx y hy e => ?_⟩
        · rcases List.mem_append.1 hm with hm | hm
          · have := (p1 k hm).1; omega
          · have := (p2 k hm).1; omega
        · subst e
          obtain ⟨r1, r2, r3, r4, r5⟩ := p1 x hx
          obtain ⟨s1, s2, s3, s4, s5⟩ := p2 x hy
          have t := trip x r1 r2 s3 r4
          have := h.tri i j x hi hj r1 r2 r3 s4
          omega
      · intro l hl
        rcases List.mem_cons.1 hl with rfl | hl
        · exact ⟨by omega, hk, by rw [hEk hi]; exact c.1, by rw [hkE hj]; exact c.2.1, by rw [hEk hi, hkE hj]; omega⟩
        · rcases List.mem_append.1 hl with hl | hl
          · obtain ⟨r1, r2, r3, r4, r5⟩ := p1 l hl
            have e1 := hle hi r2
            have e2 := hv r2 hj
            rw [if_pos ⟨r4, c.2.1⟩] at e2
            have b1 := h.bound hn r2 hk r4
            have b2 := h.bound hn hk hj c.2.1
            exact ⟨by omega, r2, by omega, by omega, by omega⟩
          · obtain ⟨r1, r2, r3, r4, r5⟩ := p2 l hl
            have e1 := hle r2 hj
            have e2 := hv hi r2
            rw [if_pos ⟨c.1, r3⟩] at e2
            have b1 := h.bound hn hi hk c.1
            have b2 := h.bound hn hk r2 r3
            exact ⟨by omega, r2, by omega, by omega, by omega⟩
      · simp only [List.length_cons, List.length_append]; omega
      · simp only [List.length_cons, List.length_append]; omega
    · have a' : E i j = D i j := by
        rw [a]; split <;> omega
      rw [a'] at hf
      obtain ⟨S, n1, p1, q1, q1'⟩ := h.wit i j hi hj hf
      refine ⟨S, n1, fun l hl => ?_, by omega, by omega⟩
      obtain ⟨r1, r2, r3, r4, r5⟩ := p1 l hl
      have e1 := hle hi r2
      have e2 := hle r2 hj
      exact ⟨by omega, r2, by omega, by omega, by omega⟩
def Small (m : M) (n : Nat) : Prop := ∀ i j, i < n → j < n → m i j = 1099511627776 ∨ (-17179869184 ≤ m i j ∧ m i j ≤ 17179869184)
theorem inv_start {m : M} {n : Nat} (hf : Fit m n) (hs : Small m n) (hd : ∀ i, i < n → 0 ≤ diagM (clampM m) n i i) : Inv (diagM (clampM m) n) n 0 := by
  have hc : ∀ {i j : Nat}, i < n → j < n → clampM m i j = m i j := fun {i j} hi hj => by have := hf i j hi hj; unfold clampM clamp; omega
  have hdi : ∀ i, i < n → diagM (clampM m) n i i = 0 := fun i hi => by
    have := hd i hi
    unfold diagM at this ⊢
    rw [if_pos ⟨rfl, hi⟩] at this ⊢
    omega
  refine ⟨diagM_fit (clampM_fit m n), hdi, fun i j l _ _ hl => absurd hl (by omega), fun i j hi hj h => ⟨[], List.nodup_nil, (fun l hl => by cases hl), ?_⟩⟩
  by_cases e : i = j
  · subst e
    rw [hdi i hi]
    simp
  · have : diagM (clampM m) n i j = m i j := by unfold diagM; rw [if_neg (fun q => e q.1), hc hi hj]
    rw [this] at h ⊢
    have := hs i j hi hj
    simp
    omega
/-- All phases. -/
theorem inv_all {m : M} {n : Nat} (hn : n ≤ 8) (hf : Fit m n) (hs : Small m n) (hok : okM (closeM (clampM m) n) n = true) : ∀ k, k ≤ n → Inv (fwN (diagM (clampM m) n) n k) n k := by
  have hd : ∀ i, i < n → 0 ≤ closeM (clampM m) n i i := of_decide_eq_true hok
  have hall : ∀ k, k ≤ n → ∀ i, i < n → 0 ≤ fwN (diagM (clampM m) n) n k i i := fun k hk i hi => by
    have h1 := hd i hi
    have h2 := fwN_mono (diagM (clampM m) n) n k (n - k) i i
    rw [show k + (n - k) = n by omega] at h2
    unfold closeM at h1
    omega
  have hfit := diagM_fit (clampM_fit m n)
  intro k
  induction k with
  | zero => exact fun _ => inv_start hf hs (hall 0 (by omega))
  | succ k ih =>
    intro hk
    have h := ih (by omega)
    exact h.step hn (by omega) (fun i j hi hj => by
      show rowsN _ k n n i j = _
      rw [rows_sim h.fit (by omega) (h.diag k (by omega)) n (Nat.le_refl _) i j hi hj, if_pos hi]) (hall (k + 1) hk) (fwN_fit hfit (k + 1) hk)
theorem tight {m : M} {n : Nat} (hn : n ≤ 8) (hf : Fit m n) (hs : Small m n) (hok : okM (closeM (clampM m) n) n = true) : Inv (closeM (clampM m) n) n n := inv_all hn hf hs hok n (Nat.le_refl _)
theorem close_le {m : M} {n : Nat} (hf : Fit m n) {i j : Nat} (hi : i < n) (hj : j < n) : closeM (clampM m) n i j ≤ m i j := by
  have h1 := fwN_le (diagM (clampM m) n) n n i j
  have h2 := hf i j hi hj
  have h3 : diagM (clampM m) n i j ≤ m i j := by unfold diagM clampM clamp; split <;> omega
  unfold closeM; omega
/-- What is closed stays. -/
theorem close_again {C : M} {n : Nat} (_hn : n ≤ 8) (h : Inv C n n) : Alike (closeM (clampM C) n) C n := by
  have h0 : Alike (diagM (clampM C) n) C n := fun i j hi hj => by
    have h1 := h.fit i j hi hj
    unfold diagM clampM clamp
    split
    · rename_i e; obtain ⟨rfl, _⟩ := e; rw [h.diag i hi]; omega
    · omega
  have hall : ∀ k, k ≤ n → Alike (fwN (diagM (clampM C) n) n k) C n := by
    intro k
    induction k with
    | zero => exact fun _ => h0
    | succ k ih =>
      intro hk
      have ih' := ih (by omega)
      have hf' : Fit (fwN (diagM (clampM C) n) n k) n := ih'.symm.fit h.fit
      have hd' : fwN (diagM (clampM C) n) n k k k = 0 := by rw [ih' k k (by omega) (by omega)]; exact h.diag k (by omega)
      intro i j hi hj
      show rowsN _ k n n i j = _
      rw [rows_sim hf' (by omega) hd' n (Nat.le_refl _) i j hi hj, if_pos hi]
      unfold sim
      rw [ih' i j hi hj, ih' i k hi (by omega), ih' k j (by omega) hj]
      have f := h.fit i j hi hj
      unfold sumZ
      split
      · omega
      · have := h.tri i j k hi hj (by omega) (by omega) (by omega) (by omega)
        omega
  exact hall n (Nat.le_refl _)
theorem ok_again {C : M} {n : Nat} (hn : n ≤ 8) (h : Inv C n n) : okM (closeM (clampM C) n) n = true :=
  decide_eq_true (fun i hi => by rw [close_again hn h i i hi hi, h.diag i hi]; omega)
end Go.Proofs.Ytdmphpkiclfhhaa.Z
