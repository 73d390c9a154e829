/- Between tokens there are blanks and remarks alone: plain Lean. -/
import Derived.Test.YtnnhdkchdjddkaaLexMem
namespace Go.Proofs.Ytnnhdkchdjddkaa.C
open Go.RowKit
set_option linter.unusedSimpArgs false
set_option linter.unusedVariables false
def remI (r : Bool) (c : Int) : Bool := (r || decide (c = 35)) && !decide (c = 10)
def blankI (c : Int) : Bool := decide (c = 32) || decide (c = 9) || decide (c = 10) || decide (c = 13)
def gapRun : Bool → List UInt8 → Option Bool
  | r, [] => some r
  | r, c :: t => if (remI r (c.toNat : Int) || blankI (c.toNat : Int)) = true then gapRun (remI r (c.toNat : Int)) t else none
theorem gapRun_append : ∀ (x y : List UInt8) (r : Bool), gapRun r (x ++ y) = (gapRun r x).bind (gapRun · y)
  | [], y, r => rfl
  | c :: x, y, r => by
    show (if _ then _ else _) = (if _ then _ else _ : Option Bool).bind _
    split
    · exact gapRun_append x y _
    · rfl
/-- The tokens stand where they say, from e on. -/
def ChainT (L : List UInt8) : Nat → List Tok → Prop
  | _, [] => True
  | e, t :: r => e ≤ t.at_ ∧ (∃ b, gapRun false ((L.drop e).take (t.at_ - e)) = some b) ∧ (t.k = 0 ↔ r = []) ∧ t.at_ + t.t.length ≤ L.length ∧ (L.drop t.at_).take t.t.length = t.t ∧ ChainT L (t.at_ + t.t.length) r
theorem oneL_kind {l : List UInt8} (h : (oneL l).2.2 = 0) : (oneL l).1 ≠ 0 := by
  unfold oneL at h ⊢
  simp only at h ⊢
  split at h
  · rename_i h1
    rw [if_pos h1]
    split at h
    · rename_i h2; rw [if_pos h2]; simp
    · rename_i h2; rw [if_neg h2]
      split at h
      · simp at h
      · rename_i h3; rw [if_neg h3]; simp
  · rename_i h1
    rw [if_neg h1]
    split at h
    · rename_i h2; rw [if_pos h2]; simp
    · rename_i h2; rw [if_neg h2]
      split at h
      · simp at h
      · rename_i h3; rw [if_neg h3]; simp
theorem gap_body : ∀ (l : List UInt8) (k : Nat), k ≤ runL bodyI l → gapRun true (l.take k) = some true
  | l, 0, _ => by simp [gapRun]
  | [], k + 1, h => by rw [runL_nil] at h; omega
  | c :: l, k + 1, h => by
    rw [runL_cons] at h
    split at h
    · rename_i hc
      rw [List.take_succ_cons]
      unfold gapRun
      have hr : remI true (c.toNat : Int) = true := by
        unfold remI
        unfold bodyI at hc
        simpa using hc
      rw [hr]
      exact gap_body l k (by omega)
    · omega
theorem take_gap (L : List UInt8) (e a k : Nat) (he : e ≤ a) (ha : a ≤ L.length) : (L.drop e).take (a + k - e) = (L.drop e).take (a - e) ++ (L.drop a).take k := by
  rw [show a + k - e = (a - e) + k by omega, List.take_add, List.drop_drop, show e + (a - e) = a by omega]
theorem skip_cases {l : List UInt8} (h : 0 < skipL l) : (skipL l = 1 ∧ blankI (chI l 0) = true) ∨ (chI l 0 = 35 ∧ skipL l = runL bodyI l) := by
  unfold skipL at h ⊢
  simp only at h ⊢
  split at h
  · rename_i h1
    rw [if_pos h1]
    refine .inl ⟨rfl, ?_⟩
    unfold blankI
    rcases h1 with h1 | h1 | h1 | h1 <;> rw [h1] <;> rfl
  · rename_i h1
    rw [if_neg h1]
    split at h
    · rename_i h2
      rw [if_pos h2]
      exact .inr ⟨h2, rfl⟩
    · omega
theorem skip_10 {l : List UInt8} (h : chI l 0 = 10) : skipL l = 1 := by
  unfold skipL
  simp only
  rw [if_pos (by omega)]
theorem lex_chain (L : List UInt8) : ∀ (m : Nat) (a e : Nat) (r : Bool) (ts : List Tok), L.length - a ≤ m → a ≤ L.length → e ≤ a → gapRun false ((L.drop e).take (a - e)) = some r → (r = true → L.drop a = [] ∨ chI (L.drop a) 0 = 10) →
    lexL (L.drop a) a = (ts, none) → ChainT L e (ts ++ [⟨0, [], L.length⟩]) := by
  intro m
  induction m with
  | zero =>
    intro a e r ts hm ha he hg hr hx
    obtain rfl : a = L.length := by omega
    rw [List.drop_of_length_le (Nat.le_refl _), lexL_nil] at hx
    obtain rfl : [] = ts := congrArg Prod.fst hx
    exact ⟨he, ⟨r, hg⟩, by simp, by simp, by simp, trivial⟩
  | succ m ih =>
    intro a e r ts hm ha he hg hr hx
    by_cases hn : a = L.length
    · exact ih a e r ts (by omega) ha he hg hr hx
    · have hlt : a < L.length := by omega
      have hne : L.drop a ≠ [] := fun h => by have := congrArg List.length h; simp at this; omega
      obtain ⟨c, l, hl⟩ : ∃ c l, L.drop a = c :: l := by
        cases h : L.drop a with
        | nil => exact absurd h hne
        | cons c l => exact ⟨c, l, rfl⟩
      have hc0 : chI (L.drop a) 0 = (c.toNat : Int) := by rw [hl]; rfl
      by_cases hk : 0 < skipL (L.drop a)
      · have hle : skipL (L.drop a) ≤ L.length - a := by
          rcases skipL_le (L.drop a) with h | h
          · simpa using h
          · exact absurd h hne
        rw [lexL_skip hne hk, List.drop_drop] at hx
        rcases skip_cases hk with ⟨h1, hb⟩ | ⟨h35, hk2⟩
        · rw [h1] at hx
          refine ih (a + 1) e false ts (by omega) (by omega) (by omega) ?_ (by simp) hx
          rw [take_gap L e a 1 he ha, gapRun_append, hg, hl]
          show gapRun r [c] = some false
          unfold gapRun
          rw [hc0] at hb
          rw [hb]
          have hrem : remI r (c.toNat : Int) = false := by
            cases r
            · unfold remI
              have h35 : (c.toNat : Int) ≠ 35 := by
                intro h
                rw [h] at hb
                exact absurd hb (by decide)
              simp [h35]
            · rcases hr rfl with h | h
              · exact absurd h hne
              · rw [hc0] at h
                rw [h]
                rfl
          rw [hrem]
          rfl
        · have hr0 : r = false := by
            cases r
            · rfl
            · rcases hr rfl with h | h
              · exact absurd h hne
              · omega
          subst hr0
          obtain ⟨k, hk'⟩ : ∃ k, skipL (L.drop a) = k := ⟨_, rfl⟩
          rw [hk'] at hk hk2 hle hx
          refine ih (a + k) e true ts (by omega) (by omega) (by omega) ?_ ?_ hx
          · rw [take_gap L e a k he ha, gapRun_append, hg]
            show gapRun false ((L.drop a).take k) = some true
            obtain ⟨k', rfl⟩ : ∃ k', k = k' + 1 := ⟨k - 1, by omega⟩
            rw [hl, List.take_succ_cons]
            rw [hl, runL_cons] at hk2
            rw [hc0] at h35
            unfold gapRun
            rw [h35] at hk2 ⊢
            rw [if_pos (by rfl)] at hk2
            show gapRun true (l.take k') = some true
            exact gap_body l k' (by omega)
          · intro _
            by_cases hend : a + k = L.length
            · left
              rw [hend]
              exact List.drop_of_length_le (Nat.le_refl _)
            · right
              have h := runL_end bodyI (L.drop a) (by rw [← hk2, List.length_drop]; omega)
              rw [← hk2, chI_drop] at h
              rw [chI_drop, Nat.add_zero]
              unfold bodyI at h
              simpa using h
      · have hk0 : skipL (L.drop a) = 0 := by omega
        by_cases hE : (oneL (L.drop a)).2.2 ≠ 0
        · rw [lexL_err hne hk0 hE] at hx
          exact absurd (congrArg Prod.snd hx) (by simp)
        · have hE0 : (oneL (L.drop a)).2.2 = 0 := by omega
          have hfit := oneL_fits (l := L.drop a) (by rw [List.length_drop]; omega) hE0
          have hkind := oneL_kind hE0
          rw [lexL_tok hne hk0 hE0, List.drop_drop] at hx
          obtain ⟨n, hn'⟩ : ∃ n, (oneL (L.drop a)).2.1 = n := ⟨_, rfl⟩
          rw [hn'] at hx hfit
          rw [List.length_drop] at hfit
          obtain ⟨us, hus⟩ : ∃ us, (lexL (L.drop (a + n)) (a + n)).1 = us := ⟨_, rfl⟩
          have h2 : (lexL (L.drop (a + n)) (a + n)).2 = none := congrArg Prod.snd hx
          have h1 := congrArg Prod.fst hx
          simp only [hus] at h1
          subst h1
          have htl : ((L.drop a).take n).length = n := by simp; omega
          refine ⟨he, ⟨r, hg⟩, ⟨fun h => absurd h hkind, fun h => ?_⟩, ?_, ?_, ?_⟩
          · simp at h
          · show a + ((L.drop a).take n).length ≤ L.length
            rw [htl]; omega
          · show (L.drop a).take ((L.drop a).take n).length = (L.drop a).take n
            rw [htl]
          · show ChainT L (a + ((L.drop a).take n).length) (us ++ [⟨0, [], L.length⟩])
            rw [htl]
            refine ih (a + n) (a + n) false us (by omega) (by omega) (Nat.le_refl _) (by simp [gapRun]) (by simp) ?_
            rw [← hus, ← h2]
/-- An error's number and its place. -/
theorem lexL_place : ∀ (m : Nat) (l : List UInt8) (a : Nat) (E : Int) (p : Nat), l.length ≤ m → (lexL l a).2 = some (E, p) → a ≤ p ∧ p ≤ a + l.length ∧ E ≠ 0 := by
  intro m
  induction m with
  | zero =>
    intro l a E p hm hx
    obtain rfl : l = [] := List.length_eq_zero_iff.1 (by omega)
    rw [lexL_nil] at hx
    cases hx
  | succ m ih =>
    intro l a E p hm hx
    by_cases hne : l = []
    · subst hne; rw [lexL_nil] at hx; cases hx
    · have hl : 0 < l.length := List.length_pos_iff.2 hne
      by_cases hk : 0 < skipL l
      · rw [lexL_skip hne hk] at hx
        have hle : skipL l ≤ l.length := (skipL_le l).resolve_right hne
        have := ih _ _ _ _ (by simp; omega) hx
        simp at this
        omega
      · by_cases hE : (oneL l).2.2 ≠ 0
        · rw [lexL_err hne (by omega) hE] at hx
          simp at hx
          obtain ⟨rfl, rfl⟩ := hx
          exact ⟨Nat.le_refl _, by omega, hE⟩
        · have hE0 : (oneL l).2.2 = 0 := by omega
          have hfit := oneL_fits hl hE0
          rw [lexL_tok hne (by omega) hE0] at hx
          have := ih _ _ _ _ (by simp; omega) hx
          simp at this
          omega
theorem lexL_count : ∀ (m : Nat) (l : List UInt8) (a : Nat), l.length ≤ m → (lexL l a).1.length ≤ l.length := by
  intro m
  induction m with
  | zero =>
    intro l a hm
    obtain rfl : l = [] := List.length_eq_zero_iff.1 (by omega)
    rw [lexL_nil]
    exact Nat.le_refl _
  | succ m ih =>
    intro l a hm
    by_cases hne : l = []
    · subst hne; rw [lexL_nil]; exact Nat.le_refl _
    · have hl : 0 < l.length := List.length_pos_iff.2 hne
      by_cases hk : 0 < skipL l
      · rw [lexL_skip hne hk]
        have := ih (l.drop (skipL l)) (a + skipL l) (by simp; omega)
        simp at this
        omega
      · by_cases hE : (oneL l).2.2 ≠ 0
        · rw [lexL_err hne (by omega) hE]
          exact Nat.zero_le _
        · have hE0 : (oneL l).2.2 = 0 := by omega
          have hfit := oneL_fits hl hE0
          rw [lexL_tok hne (by omega) hE0]
          have := ih (l.drop (oneL l).2.1) (a + (oneL l).2.1) (by simp; omega)
          simp at this ⊢
          omega
end Go.Proofs.Ytnnhdkchdjddkaa.C
