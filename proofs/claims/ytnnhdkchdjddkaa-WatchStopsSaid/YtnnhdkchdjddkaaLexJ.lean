/- Two texts with a line's end between: plain Lean. -/
import Derived.Test.YtnnhdkchdjddkaaLexQ
namespace Go.Proofs.Ytnnhdkchdjddkaa.C
open Go.RowKit
set_option linter.unusedSimpArgs false
set_option linter.unusedVariables false
theorem chI_app_lt {l r : List UInt8} {k : Nat} (h : k < l.length) : chI (l ++ r) k = chI l k := by
  unfold chI
  simp [List.getD, List.getElem?_append_left h]
theorem chI_app_at (l r : List UInt8) : chI (l ++ 10 :: r) l.length = 10 := by
  unfold chI
  simp [List.getD, List.getElem?_append_right (Nat.le_refl _)]
theorem runL_app (p : Int → Bool) (hp : p 10 = false) (r : List UInt8) : ∀ l : List UInt8, runL p (l ++ 10 :: r) = runL p l
  | [] => by
    show runL p (10 :: r) = 0
    rw [runL_cons]
    have : ((10 : UInt8).toNat : Int) = 10 := rfl
    rw [this, hp]
    rfl
  | c :: l => by
    show runL p (c :: (l ++ 10 :: r)) = _
    rw [runL_cons, runL_cons, runL_app p hp r l]
theorem take_app {l r : List UInt8} {k : Nat} (h : k ≤ l.length) : (l ++ r).take k = l.take k := List.take_append_of_le_length h
theorem cntL_app (l r : List UInt8) : cntL (l ++ 10 :: r) = cntL l := by
  unfold cntL
  rw [runL_app digitI (by rfl)]
  have hle := runL_le digitI l
  by_cases h : runL digitI l < l.length
  · rw [chI_app_lt h]
    by_cases h2 : chI l (runL digitI l) = 117
    · rw [if_pos ⟨by simp; omega, h2⟩, if_pos ⟨h, h2⟩]
    · rw [if_neg (fun x => h2 x.2), if_neg (fun x => h2 x.2)]
  · have e : runL digitI l = l.length := by omega
    rw [e, chI_app_at, if_neg (fun x => absurd x.2 (by decide)), if_neg (fun x => absurd x.1 (by omega))]
theorem numberL_app (l r : List UInt8) : numberL (l ++ 10 :: r) = numberL l := by
  unfold numberL
  have hle := cntL_le l
  rw [cntL_app, take_app hle]
  by_cases h0 : (valueL (l.take (cntL l))).2.2 ≠ 0
  · rw [if_pos h0, if_pos h0]
  · rw [if_neg h0, if_neg h0]
    by_cases h : cntL l < l.length
    · rw [chI_app_lt h]
      by_cases h2 : withinI (chI l (cntL l)) = true
      · rw [if_pos ⟨by simp; omega, h2⟩, if_pos ⟨h, h2⟩]
      · rw [if_neg (fun x => h2 x.2), if_neg (fun x => h2 x.2)]
    · have e : cntL l = l.length := by omega
      rw [e, chI_app_at, if_neg (fun x => absurd x.2 (by decide)), if_neg (fun x => absurd x.1 (by omega))]
theorem signL_app {l : List UInt8} (hl : 0 < l.length) (r : List UInt8) : signL (l ++ 10 :: r) = signL l := by
  unfold signL
  have e0 : (l ++ 10 :: r).getD 0 0 = l.getD 0 0 := by simp [List.getD, List.getElem?_append_left hl]
  rw [e0]
  by_cases h : 2 ≤ l.length
  · rw [take_app h]
    by_cases h2 : l.take 2 ∈ signs2
    · rw [if_pos ⟨by simp; omega, h2⟩, if_pos ⟨h, h2⟩]
    · rw [if_neg (show ¬ (2 ≤ (l ++ 10 :: r).length ∧ l.take 2 ∈ signs2) from fun x => h2 x.2), if_neg (show ¬ (2 ≤ l.length ∧ l.take 2 ∈ signs2) from fun x => h2 x.2)]
  · obtain ⟨c, rfl⟩ : ∃ c, l = [c] := by
      cases l with
      | nil => simp at hl
      | cons c t => cases t with
        | nil => exact ⟨c, rfl⟩
        | cons d t => simp at h
    rw [if_neg (show ¬ (2 ≤ ([c] ++ 10 :: r).length ∧ ([c] ++ 10 :: r).take 2 ∈ signs2) from fun x => ?_), if_neg (show ¬ (2 ≤ [c].length ∧ [c].take 2 ∈ signs2) from fun x => absurd x.1 h)]
    have hx := x.2
    simp [signs2] at hx
theorem oneL_app {l : List UInt8} (hl : 0 < l.length) (r : List UInt8) : oneL (l ++ 10 :: r) = oneL l := by
  unfold oneL
  simp only
  rw [chI_app_lt hl, runL_app withinI (by rfl), take_app (runL_le withinI l), numberL_app, signL_app hl]
theorem skipL_app {l : List UInt8} (hl : 0 < l.length) (r : List UInt8) : skipL (l ++ 10 :: r) = skipL l := by
  unfold skipL
  simp only
  rw [chI_app_lt hl, runL_app bodyI (by rfl)]
theorem lexL_app (B : List UInt8) : ∀ (m : Nat) (l : List UInt8) (a : Nat), l.length ≤ m →
    lexL (l ++ 10 :: B) a = (match (lexL l a).2 with | none => ((lexL l a).1 ++ (lexL B (a + l.length + 1)).1, (lexL B (a + l.length + 1)).2) | some x => ((lexL l a).1, some x)) := by
  intro m
  have nil_case : ∀ a : Nat, lexL ([] ++ 10 :: B) a = (match (lexL [] a).2 with | none => ((lexL [] a).1 ++ (lexL B (a + ([] : List UInt8).length + 1)).1, (lexL B (a + ([] : List UInt8).length + 1)).2) | some x => ((lexL [] a).1, some x)) := by
    intro a
    have hs : skipL (10 :: B) = 1 := skip_10 rfl
    show lexL (10 :: B) a = _
    rw [lexL_skip (by simp) (by omega), hs, lexL_nil]
    rfl
  induction m with
  | zero =>
    intro l a hm
    obtain rfl : l = [] := List.length_eq_zero_iff.1 (by omega)
    exact nil_case a
  | succ m ih =>
    intro l a hm
    by_cases hne : l = []
    · subst hne
      exact nil_case a
    · have hl : 0 < l.length := List.length_pos_iff.2 hne
      have hne2 : l ++ 10 :: B ≠ [] := by simp
      by_cases hk : 0 < skipL l
      · have hle : skipL l ≤ l.length := (skipL_le l).resolve_right hne
        rw [lexL_skip hne hk, lexL_skip hne2 (by rw [skipL_app hl]; exact hk), skipL_app hl, List.drop_append_of_le_length hle, ih _ _ (by simp; omega), List.length_drop, show a + skipL l + (l.length - skipL l) + 1 = a + l.length + 1 by omega]
      · have hk2 : skipL (l ++ 10 :: B) = 0 := by rw [skipL_app hl]; omega
        by_cases hE : (oneL l).2.2 ≠ 0
        · rw [lexL_err hne (by omega) hE, lexL_err hne2 hk2 (by rw [oneL_app hl]; exact hE), oneL_app hl]
        · have hE0 : (oneL l).2.2 = 0 := by omega
          have hfit := oneL_fits hl hE0
          rw [lexL_tok hne (by omega) hE0, lexL_tok hne2 hk2 (by rw [oneL_app hl]; exact hE0), oneL_app hl, List.drop_append_of_le_length hfit.2, take_app hfit.2, ih _ _ (by simp; omega), List.length_drop, show a + (oneL l).2.1 + (l.length - (oneL l).2.1) + 1 = a + l.length + 1 by omega]
          cases (lexL (l.drop (oneL l).2.1) (a + (oneL l).2.1)).2 <;> rfl
def shT (d : Nat) (t : Tok) : Tok := ⟨t.k, t.t, t.at_ + d⟩
theorem lexL_shift (d : Nat) : ∀ (m : Nat) (l : List UInt8) (a : Nat), l.length ≤ m → lexL l (a + d) = ((lexL l a).1.map (shT d), (lexL l a).2.map (fun x => (x.1, x.2 + d))) := by
  intro m
  induction m with
  | zero =>
    intro l a hm
    obtain rfl : l = [] := List.length_eq_zero_iff.1 (by omega)
    rw [lexL_nil, lexL_nil]
    rfl
  | succ m ih =>
    intro l a hm
    by_cases hne : l = []
    · subst hne
      rw [lexL_nil, lexL_nil]
      rfl
    · have hl : 0 < l.length := List.length_pos_iff.2 hne
      by_cases hk : 0 < skipL l
      · rw [lexL_skip hne hk, lexL_skip hne hk, show a + d + skipL l = a + skipL l + d by omega, ih _ _ (by simp; omega)]
      · by_cases hE : (oneL l).2.2 ≠ 0
        · rw [lexL_err hne (by omega) hE, lexL_err hne (by omega) hE]
          rfl
        · have hE0 : (oneL l).2.2 = 0 := by omega
          have hfit := oneL_fits hl hE0
          rw [lexL_tok hne (by omega) hE0, lexL_tok hne (by omega) hE0, show a + d + (oneL l).2.1 = a + (oneL l).2.1 + d by omega, ih _ _ (by simp; omega)]
          rfl
theorem lexR_ok' {L : List UInt8} {ts : List Tok} (hl : ¬ 8192 < L.length) (h : lexL L 0 = (ts, none)) : lexR L = (ts ++ [⟨0, [], L.length⟩], 0, 0) := by
  unfold lexR
  rw [if_neg hl, h]
theorem lexR_err' {L : List UInt8} {ts : List Tok} {x : Int × Nat} (hl : ¬ 8192 < L.length) (h : lexL L 0 = (ts, some x)) : lexR L = ([], x.1, (x.2 : Int)) := by
  unfold lexR
  rw [if_neg hl, h]
theorem lexL_at : ∀ (m : Nat) (l : List UInt8) (a : Nat), l.length ≤ m → ∀ t ∈ (lexL l a).1, t.at_ ≤ a + l.length := by
  intro m
  induction m with
  | zero =>
    intro l a hm t ht
    obtain rfl : l = [] := List.length_eq_zero_iff.1 (by omega)
    rw [lexL_nil] at ht
    cases ht
  | succ m ih =>
    intro l a hm t ht
    by_cases hne : l = []
    · subst hne; rw [lexL_nil] at ht; cases ht
    · have hl : 0 < l.length := List.length_pos_iff.2 hne
      by_cases hk : 0 < skipL l
      · have hle : skipL l ≤ l.length := (skipL_le l).resolve_right hne
        rw [lexL_skip hne hk] at ht
        have := ih _ _ (by simp; omega) t ht
        simp at this
        omega
      · by_cases hE : (oneL l).2.2 ≠ 0
        · rw [lexL_err hne (by omega) hE] at ht
          cases ht
        · have hE0 : (oneL l).2.2 = 0 := by omega
          have hfit := oneL_fits hl hE0
          rw [lexL_tok hne (by omega) hE0] at ht
          rcases List.mem_cons.1 ht with rfl | ht
          · simp
          · have := ih _ _ (by simp; omega) t ht
            simp at this
            omega
/-- Of two texts with a line's end between. -/
theorem lexR_joins (A B : List UInt8) (ha : A.length ≤ 500) (hb : B.length ≤ 500) :
    (∃ E p E' p', lexR A = ([], E, p) ∧ E ≠ 0 ∧ lexR (A ++ [10] ++ B) = ([], E', p') ∧ E' ≠ 0) ∨
    (∃ ta E p p', lexR A = (ta ++ [⟨0, [], A.length⟩], 0, 0) ∧ lexR B = ([], E, p) ∧ E ≠ 0 ∧ lexR (A ++ [10] ++ B) = ([], E, p') ∧ (A.length : Int) < p') ∨
    (∃ ta us, lexR A = (ta ++ [⟨0, [], A.length⟩], 0, 0) ∧ lexR B = (us, 0, 0) ∧ us ≠ [] ∧ us.length ≤ 501 ∧ ta.length ≤ 500 ∧ (∀ t ∈ us, t.at_ ≤ 500) ∧ lexR (A ++ [10] ++ B) = (ta ++ us.map (shT (A.length + 1)), 0, 0)) := by
  have hL : A ++ [10] ++ B = A ++ 10 :: B := by simp
  have hlen : (A ++ 10 :: B).length = A.length + 1 + B.length := by simp; omega
  have happ := lexL_app B A.length A 0 (Nat.le_refl _)
  have hsh := lexL_shift (A.length + 1) B.length B 0 (Nat.le_refl _)
  have hca := lexL_count A.length A 0 (Nat.le_refl _)
  have hcb := lexL_count B.length B 0 (Nat.le_refl _)
  rw [hL]
  obtain ⟨⟨ta, xa⟩, hxa⟩ : ∃ r, lexL A 0 = r := ⟨_, rfl⟩
  obtain ⟨⟨tb, xb⟩, hxb⟩ : ∃ r, lexL B 0 = r := ⟨_, rfl⟩
  rw [hxa] at happ hca
  rw [hxb] at hsh hcb
  rw [show 0 + A.length + 1 = 0 + (A.length + 1) by omega, hsh] at happ
  simp only at happ hca hcb
  cases xa with
  | some x =>
    have hp := lexL_place A.length A 0 x.1 x.2 (Nat.le_refl _) (by rw [hxa])
    exact .inl ⟨x.1, x.2, x.1, x.2, lexR_err' (by omega) hxa, hp.2.2, lexR_err' (by omega) happ, hp.2.2⟩
  | none =>
    simp only at happ
    cases xb with
    | some x =>
      have hp := lexL_place B.length B 0 x.1 x.2 (Nat.le_refl _) (by rw [hxb])
      refine .inr (.inl ⟨ta, x.1, x.2, ((x.2 + (A.length + 1) : Nat) : Int), lexR_ok' (by omega) hxa, lexR_err' (by omega) hxb, hp.2.2, ?_, by omega⟩)
      exact lexR_err' (x := (x.1, x.2 + (A.length + 1))) (by omega) happ
    | none =>
      refine .inr (.inr ⟨ta, tb ++ [⟨0, [], B.length⟩], lexR_ok' (by omega) hxa, lexR_ok' (by omega) hxb, by simp, by simp; omega, by omega, ?_, ?_⟩)
      · intro t ht
        rcases List.mem_append.1 ht with ht | ht
        · have := lexL_at B.length B 0 (Nat.le_refl _) t (by rw [hxb]; exact ht)
          omega
        · have : t = ⟨0, [], B.length⟩ := by simpa using ht
          rw [this]
          exact hb
      rw [lexR_ok' (by omega) happ, hlen]
      simp [shT]
      omega
end Go.Proofs.Ytnnhdkchdjddkaa.C
