/- The lexer as a function of lists of bytes: plain Lean, no program. -/
import Derived.Test.YtnnhdkchdjddkaaWords
import Derived.Lib.Strings
import Derived.Lib.SlicesS
import Derived.Lib.Bytealg
namespace Go.Proofs.Ytnnhdkchdjddkaa.C
open Go.RowKit
/-- A byte as a number. -/
def chI (l : List UInt8) (i : Nat) : Int := ((l.getD i 0).toNat : Int)
theorem chI_range (l : List UInt8) (i : Nat) : 0 ≤ chI l i ∧ chI l i ≤ 255 := by
  unfold chI
  have := (l.getD i 0).toNat_lt
  omega
def smallI (c : Int) : Bool := decide (97 ≤ c) && decide (c ≤ 122)
def digitI (c : Int) : Bool := decide (48 ≤ c) && decide (c ≤ 57)
def withinI (c : Int) : Bool := (smallI c || digitI c) || decide (c = 95)
def bodyI (c : Int) : Bool := !decide (c = 10)
/-- How many bytes ahead are so. -/
def runL (p : Int → Bool) (l : List UInt8) : Nat := (l.takeWhile (fun c => p (c.toNat : Int))).length
theorem runL_nil (p : Int → Bool) : runL p [] = 0 := rfl
theorem runL_cons (p : Int → Bool) (c : UInt8) (l : List UInt8) : runL p (c :: l) = if p (c.toNat : Int) = true then runL p l + 1 else 0 := by
  unfold runL
  rw [List.takeWhile_cons]
  split <;> simp
theorem runL_le (p : Int → Bool) : ∀ l : List UInt8, runL p l ≤ l.length
  | [] => by rw [runL_nil]; exact Nat.le_refl _
  | c :: l => by
    rw [runL_cons]
    have := runL_le p l
    split <;> simp <;> omega
theorem runL_lt (p : Int → Bool) : ∀ (l : List UInt8) (k : Nat), k < runL p l → k < l.length ∧ p (chI l k) = true
  | [], k, h => by rw [runL_nil] at h; omega
  | c :: l, k, h => by
    rw [runL_cons] at h
    split at h
    · cases k with
      | zero => exact ⟨by simp, by assumption⟩
      | succ k =>
        have := runL_lt p l k (by omega)
        exact ⟨by simp; omega, by have h2 := this.2; unfold chI at *; simpa using h2⟩
    · omega
theorem runL_end (p : Int → Bool) : ∀ (l : List UInt8), runL p l < l.length → p (chI l (runL p l)) = false
  | [], h => by simp at h
  | c :: l, h => by
    rw [runL_cons] at h ⊢
    split
    · rw [if_pos (by assumption)] at h
      have := runL_end p l (by simp at h; omega)
      unfold chI at *
      simpa using this
    · have hn : ¬ p (c.toNat : Int) = true := by assumption
      unfold chI
      simpa using hn
theorem chI_drop (l : List UInt8) (a k : Nat) : chI (l.drop a) k = chI l (a + k) := by
  unfold chI
  simp [List.getD]
/-- The number that digits spell, from an accumulator on. -/
def foldV (v : Int) : List UInt8 → Int
  | [] => v
  | c :: r => foldV (10 * v + ((c.toNat : Int) - 48)) r
def maxL (t : Int) : Int := if t = 5 then 2147483647 else 4294967295
/-- What digits say, perhaps with a u behind: value, type, error (0, 3, 4). -/
def valueL (d : List UInt8) : Int × Int × Int :=
  let u := Lib.hasSuffix d [117]
  let s := Lib.trimSuffix d [117]
  let t : Int := if u then 6 else 5
  let n := runL digitI s
  let v := foldV 0 (s.take n)
  if 10 < n then (0, 0, 3)
  else if maxL t < v then (0, 0, 3)
  else if n = 0 ∨ n < s.length ∨ (1 < n ∧ chI s 0 = 48) then (0, 0, 4)
  else (v, t, 0)
/-- How many bytes look like a number: digits, perhaps a u. -/
def cntL (l : List UInt8) : Nat := if runL digitI l < l.length ∧ chI l (runL digitI l) = 117 then runL digitI l + 1 else runL digitI l
/-- How many bytes a number has: the count, error. -/
def numberL (l : List UInt8) : Nat × Int :=
  if (valueL (l.take (cntL l))).2.2 ≠ 0 then (0, (valueL (l.take (cntL l))).2.2)
  else if cntL l < l.length ∧ withinI (chI l (cntL l)) = true then (0, 4)
  else (cntL l, 0)
theorem cntL_le (l : List UInt8) : cntL l ≤ l.length := by
  unfold cntL
  have := runL_le digitI l
  split <;> omega
def signs2 : List (List UInt8) := [[61, 61], [33, 61], [60, 61], [62, 61], [60, 60], [62, 62]]
def signs1 : List UInt8 := [40, 41, 123, 125, 91, 93, 44, 59, 58, 61, 60, 62, 43, 45, 42, 47, 37, 38, 124, 94, 126]
def signL (l : List UInt8) : Nat :=
  if 2 ≤ l.length ∧ l.take 2 ∈ signs2 then 2
  else if 0 ≤ Lib.indexByte signs1 (l.getD 0 0) then 1 else 0
def keyWords : List (List UInt8) := [[103,108,111,98,97,108],[102,110],[114,101,113,117,105,114,101,115],[101,110,115,117,114,101,115],[97,115,115,105,103,110,115],[110,111,116,104,105,110,103],[108,101,116],[99,97,108,108],[105,102],[101,108,115,101],[119,104,105,108,101],[105,110,118,97,114,105,97,110,116],[98,114,101,97,107],[99,111,110,116,105,110,117,101],[114,101,116,117,114,110],[97,115,115,101,114,116],[105,110,112,117,116],[111,108,100],[114,101,115,117,108,116],[110,111,116],[97,110,100],[111,114]]
def typeWords : List (List UInt8) := [[105,56],[117,56],[105,49,54],[117,49,54],[105,51,50],[117,51,50]]
def keyL (d : List UInt8) : Bool := decide (d ∈ typeWords) || decide (d ∈ keyWords)
/-- The token ahead: kind, bytes, error. -/
def oneL (l : List UInt8) : Int × Nat × Int :=
  let c := chI l 0
  if smallI c = true then
    let n := runL withinI l
    if keyL (l.take n) = true then (3, n, 0) else if 20 < n then (0, 0, 3) else (1, n, 0)
  else if digitI c = true then (2, (numberL l).1, (numberL l).2)
  else if signL l = 0 then (0, 0, 4) else (4, signL l, 0)
/-- What is passed over ahead: how many bytes; 0: nothing. -/
def skipL (l : List UInt8) : Nat :=
  let c := chI l 0
  if c = 32 ∨ c = 9 ∨ c = 10 ∨ c = 13 then 1 else if c = 35 then runL bodyI l else 0
/-- A token: kind, bytes, place. -/
structure Tok where
  k : Int
  t : List UInt8
  at_ : Nat
/-- The tokens of a text that begins at a place; an error's number and place. -/
def lexF : Nat → List UInt8 → Nat → List Tok × Option (Int × Nat)
  | 0, _, _ => ([], none)
  | f + 1, l, at_ =>
    if l = [] then ([], none)
    else if 0 < skipL l then lexF f (l.drop (skipL l)) (at_ + skipL l)
    else
      let o := oneL l
      if o.2.2 ≠ 0 then ([], some (o.2.2, at_))
      else let r := lexF f (l.drop o.2.1) (at_ + o.2.1); (⟨o.1, l.take o.2.1, at_⟩ :: r.1, r.2)
theorem skipL_le (l : List UInt8) : skipL l ≤ l.length ∨ l = [] := by
  by_cases h : l = []
  · exact .inr h
  · have hl : 0 < l.length := by rcases l with _ | ⟨a, b⟩ <;> simp_all
    left
    unfold skipL
    have := runL_le bodyI l
    simp only
    split
    · omega
    · split <;> omega
theorem takeSmall {l : List UInt8} (h : smallI (chI l 0) = true) : 0 < runL withinI l := by
  cases l with
  | nil => simp [chI, smallI] at h
  | cons c r =>
    rw [runL_cons, if_pos]
    · omega
    · have h' : smallI (c.toNat : Int) = true := h
      unfold withinI
      rw [h']
      rfl
theorem numberL_le (l : List UInt8) : (numberL l).1 ≤ l.length := by
  unfold numberL
  have := cntL_le l
  split
  · simp
  · split
    · simp
    · exact this
theorem takeDigit {l : List UInt8} (h : digitI (chI l 0) = true) : 0 < runL digitI l := by
  cases l with
  | nil => simp [chI, digitI] at h
  | cons c r =>
    rw [runL_cons, if_pos]
    · omega
    · exact h
theorem numberL_pos {l : List UInt8} (h : digitI (chI l 0) = true) (h0 : (numberL l).2 = 0) : 0 < (numberL l).1 := by
  have h1 := takeDigit h
  have h2 : 0 < cntL l := by unfold cntL; split <;> omega
  unfold numberL at h0 ⊢
  by_cases h3 : (valueL (l.take (cntL l))).2.2 ≠ 0
  · rw [if_pos h3] at h0
    exact absurd h0 h3
  · rw [if_neg h3] at h0 ⊢
    by_cases h4 : cntL l < l.length ∧ withinI (chI l (cntL l)) = true
    · rw [if_pos h4] at h0
      simp at h0
    · rw [if_neg h4]
      exact h2
theorem oneL_fits {l : List UInt8} (hl : 0 < l.length) (h0 : (oneL l).2.2 = 0) : 0 < (oneL l).2.1 ∧ (oneL l).2.1 ≤ l.length := by
  unfold oneL at h0 ⊢
  simp only at h0 ⊢
  by_cases hs : smallI (chI l 0) = true
  · rw [if_pos hs] at h0 ⊢
    have h1 := takeSmall hs
    have h2 := runL_le withinI l
    split
    · exact ⟨h1, h2⟩
    · rename_i h3
      rw [if_neg h3] at h0
      split
      · rename_i h4
        rw [if_pos h4] at h0
        simp at h0
      · exact ⟨h1, h2⟩
  · rw [if_neg hs] at h0 ⊢
    by_cases hd : digitI (chI l 0) = true
    · rw [if_pos hd] at h0 ⊢
      exact ⟨numberL_pos hd h0, numberL_le l⟩
    · rw [if_neg hd] at h0 ⊢
      split
      · rename_i h4
        rw [if_pos h4] at h0
        simp at h0
      · rename_i h4
        show 0 < signL l ∧ signL l ≤ l.length
        refine ⟨by omega, ?_⟩
        unfold signL
        split
        · omega
        · split <;> omega
theorem lexF_fuel : ∀ (f g : Nat) (l : List UInt8) (a : Nat), l.length < f → l.length < g → lexF f l a = lexF g l a
  | 0, g, l, a, h, _ => by omega
  | f + 1, 0, l, a, _, h => by omega
  | f + 1, g + 1, l, a, hf, hg => by
    unfold lexF
    by_cases hn : l = []
    · rw [if_pos hn, if_pos hn]
    · have hl : 0 < l.length := by rcases l with _ | ⟨a, b⟩ <;> simp_all
      rw [if_neg hn, if_neg hn]
      by_cases hs : 0 < skipL l
      · rw [if_pos hs, if_pos hs]
        exact lexF_fuel f g _ _ (by simp; omega) (by simp; omega)
      · rw [if_neg hs, if_neg hs]
        simp only
        by_cases he : (oneL l).2.2 ≠ 0
        · rw [if_pos he, if_pos he]
        · rw [if_neg he, if_neg he]
          have h0 : (oneL l).2.2 = 0 := by omega
          have := oneL_fits hl h0
          rw [lexF_fuel f g _ _ (by simp; omega) (by simp; omega)]
/-- The tokens of a text. -/
def lexL (l : List UInt8) (a : Nat) : List Tok × Option (Int × Nat) := lexF (l.length + 1) l a
theorem lexL_nil (a : Nat) : lexL [] a = ([], none) := rfl
theorem lexL_skip {l : List UInt8} (hl : l ≠ []) (hs : 0 < skipL l) (a : Nat) : lexL l a = lexL (l.drop (skipL l)) (a + skipL l) := by
  have h0 : 0 < l.length := by rcases l with _ | ⟨a, b⟩ <;> simp_all
  unfold lexL
  rw [lexF, if_neg hl, if_pos hs]
  exact lexF_fuel _ _ _ _ (by simp; omega) (by simp)
theorem lexL_err {l : List UInt8} (hl : l ≠ []) (hs : skipL l = 0) (he : (oneL l).2.2 ≠ 0) (a : Nat) : lexL l a = ([], some ((oneL l).2.2, a)) := by
  unfold lexL
  rw [lexF, if_neg hl, if_neg (by omega)]
  simp only
  rw [if_pos he]
theorem lexL_tok {l : List UInt8} (hl : l ≠ []) (hs : skipL l = 0) (he : (oneL l).2.2 = 0) (a : Nat) :
    lexL l a = (⟨(oneL l).1, l.take (oneL l).2.1, a⟩ :: (lexL (l.drop (oneL l).2.1) (a + (oneL l).2.1)).1, (lexL (l.drop (oneL l).2.1) (a + (oneL l).2.1)).2) := by
  have h0 : 0 < l.length := by rcases l with _ | ⟨a, b⟩ <;> simp_all
  have := oneL_fits h0 he
  have e : lexF l.length (l.drop (oneL l).2.1) (a + (oneL l).2.1) = lexL (l.drop (oneL l).2.1) (a + (oneL l).2.1) := lexF_fuel _ _ _ _ (by simp; omega) (by simp)
  rw [← e]
  unfold lexL
  rw [lexF, if_neg hl, if_neg (by omega)]
  simp only
  rw [if_neg (by omega)]
end Go.Proofs.Ytnnhdkchdjddkaa.C
