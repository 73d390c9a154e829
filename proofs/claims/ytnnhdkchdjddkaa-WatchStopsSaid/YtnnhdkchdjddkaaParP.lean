/- The reference's reader of expressions as a function: plain Lean. -/
import Derived.Test.YtnnhdkchdjddkaaRLexP
namespace Go.Proofs.Ytnnhdkchdjddkaa.C
open Go.RowKit
set_option linter.unusedSimpArgs false
set_option linter.unusedVariables false
/-- A node of an expression. -/
structure Ex where
  k : Int
  num : Int
  t : Int
  nm : List UInt8
  a : Int
  b : Int
  at_ : Int
/-- Where the reader is. -/
structure Rd where
  i : Nat
  deep : Int
  e : Int
  at_ : Int
def tkP (ts : List Tok) (i : Nat) : Tok := ts.getD i ⟨0, [], 0⟩
def failP (ts : List Tok) (st : Rd) (e : Int) : Rd := if st.e = 0 then { st with e := e, at_ := (tkP ts st.i).at_ } else st
def isP (ts : List Tok) (st : Rd) (w : List UInt8) : Bool := decide (st.e = 0) && ((decide ((tkP ts st.i).k = 4) || decide ((tkP ts st.i).k = 3)) && decide ((tkP ts st.i).t = w))
def takeP (ts : List Tok) (st : Rd) (w : List UInt8) : Rd := if isP ts st w = true then { st with i := st.i + 1 } else st
def wantP (ts : List Tok) (st : Rd) (w : List UInt8) : Rd := if isP ts st w = true then { st with i := st.i + 1 } else failP ts st 5
def openP (ts : List Tok) (st : Rd) (w : List UInt8) : Rd :=
  let s1 := if isP ts st w = true ∧ 30 ≤ st.deep then failP ts st 6 else st
  let s2 := wantP ts s1 w
  { s2 with deep := s2.deep + 1 }
def upP (st : Rd) : Rd := { st with deep := st.deep - 1 }
/-- The operators of a level, with their kinds. -/
def levelP (n : Nat) : List (List UInt8 × Int) :=
  if n = 0 then [([38], 13), ([124], 14), ([94], 15)]
  else if n = 1 then [([60, 60], 16), ([62, 62], 17)]
  else if n = 2 then [([43], 8), ([45], 9)]
  else [([42], 10), ([47], 11), ([37], 12)]
/-- The first of some signs that stands there: its kind; 0: none. -/
def pickP (ts : List Tok) (st : Rd) : List (List UInt8 × Int) → Int
  | [] => 0
  | (w, k) :: r => if isP ts st w = true then k else pickP ts st r
def readTL (d : List UInt8) : Int := if d = [105,56] then 1 else if d = [117,56] then 2 else if d = [105,49,54] then 3 else if d = [117,49,54] then 4 else if d = [105,51,50] then 5 else if d = [117,51,50] then 6 else 0
def nodeP (k a b at_ : Int) : Ex := ⟨k, 0, 0, [], a, b, at_⟩
/-- The reader of expressions, with fuel. Modes 0 to 3: a row of that level; 4: unary; 5 + n: on with a row of level n. -/
def pF (ts : List Tok) : Nat → Nat → Rd → List Ex → Option (Rd × List Ex)
  | 0, _, _, _ => none
  | f + 1, m, st, l =>
    if m < 4 then (pF ts f (m + 1) st l).bind (fun r => pF ts f (5 + m) r.1 r.2)
    else if 4 < m then
      if st.e ≠ 0 then some (st, l)
      else if pickP ts st (levelP (m - 5)) = 0 then some (st, l)
      else (pF ts f (m - 4) { st with i := st.i + 1 } l).bind (fun r => pF ts f m r.1 (r.2 ++ [nodeP (pickP ts st (levelP (m - 5))) ((l.length : Int) - 1) ((r.2.length : Int) - 1) (tkP ts st.i).at_]))
    else if st.e ≠ 0 then some (st, l)
    else
      let t := tkP ts st.i
      if isP ts st [45] = true ∨ isP ts st [126] = true then
        (pF ts f 4 (openP ts st t.t) l).bind (fun r => some (upP r.1, r.2 ++ [nodeP (if t.t = [126] then 7 else 6) ((r.2.length : Int) - 1) (-1) t.at_]))
      else if isP ts st [40] = true then (pF ts f 0 (openP ts st [40]) l).bind (fun r => some (upP (wantP ts r.1 [41]), r.2))
      else if t.k = 2 then some ({ st with i := st.i + 1 }, l ++ [⟨1, (rnumberL t.t).1, (rnumberL t.t).2.1, [], -1, -1, t.at_⟩])
      else if t.k = 1 then
        if isP ts { st with i := st.i + 1 } [91] = true then
          (pF ts f 0 (openP ts { st with i := st.i + 1 } [91]) l).bind (fun r => some (upP (wantP ts r.1 [93]), r.2 ++ [⟨3, 0, 0, t.t, (r.2.length : Int) - 1, -1, t.at_⟩]))
        else some ({ st with i := st.i + 1 }, l ++ [⟨2, 0, 0, t.t, -1, -1, t.at_⟩])
      else if isP ts st [111, 108, 100] = true then
        (pF ts f 0 (openP ts { st with i := st.i + 1 } [40]) l).bind (fun r => some (upP (wantP ts r.1 [41]), r.2 ++ [nodeP 4 ((r.2.length : Int) - 1) (-1) t.at_]))
      else if isP ts st [114, 101, 115, 117, 108, 116] = true then some ({ st with i := st.i + 1 }, l ++ [nodeP 5 (-1) (-1) t.at_])
      else if t.k = 3 ∧ 0 < readTL t.t then
        (pF ts f 0 (openP ts { st with i := st.i + 1 } [40]) l).bind (fun r => some (upP (wantP ts r.1 [41]), r.2 ++ [⟨18, 0, readTL t.t, [], (r.2.length : Int) - 1, -1, t.at_⟩]))
      else some (failP ts st 5, l)
theorem bind_some_mono {α β : Type} {a a' : Option α} {g g' : α → Option β} {r : β} (ha : ∀ x, a = some x → a' = some x) (hg : ∀ x y, g x = some y → g' x = some y) (h : a.bind g = some r) : a'.bind g' = some r := by
  cases a with
  | none => cases h
  | some x => rw [ha x rfl]; exact hg x r h
theorem pF_mono (ts : List Tok) : ∀ (f m : Nat) (st : Rd) (l : List Ex) (r : Rd × List Ex), pF ts f m st l = some r → pF ts (f + 1) m st l = some r := by
  intro f
  induction f with
  | zero => intro m st l r h; cases h
  | succ f ih =>
    intro m st l r h
    rw [pF] at h ⊢
    by_cases h1 : m < 4
    · rw [if_pos h1] at h ⊢
      exact bind_some_mono (fun x hx => ih _ _ _ _ hx) (fun x y hy => ih _ _ _ _ hy) h
    · rw [if_neg h1] at h ⊢
      by_cases h2 : 4 < m
      · rw [if_pos h2] at h ⊢
        by_cases h3 : st.e ≠ 0
        · rw [if_pos h3] at h ⊢; exact h
        · rw [if_neg h3] at h ⊢
          by_cases h4 : pickP ts st (levelP (m - 5)) = 0
          · rw [if_pos h4] at h ⊢; exact h
          · rw [if_neg h4] at h ⊢
            exact bind_some_mono (fun x hx => ih _ _ _ _ hx) (fun x y hy => ih _ _ _ _ hy) h
      · rw [if_neg h2] at h ⊢
        by_cases h3 : st.e ≠ 0
        · rw [if_pos h3] at h ⊢; exact h
        · rw [if_neg h3] at h ⊢
          simp only at h ⊢
          by_cases c0 : isP ts st [45] = true ∨ isP ts st [126] = true
          · rw [if_pos c0] at h ⊢
            exact bind_some_mono (fun x hx => ih _ _ _ _ hx) (fun x y hy => hy) h
          rw [if_neg c0] at h ⊢
          by_cases c1 : isP ts st [40] = true
          · rw [if_pos c1] at h ⊢
            exact bind_some_mono (fun x hx => ih _ _ _ _ hx) (fun x y hy => hy) h
          rw [if_neg c1] at h ⊢
          by_cases c2 : (tkP ts st.i).k = 2
          · rw [if_pos c2] at h ⊢
            exact h
          rw [if_neg c2] at h ⊢
          by_cases c3 : (tkP ts st.i).k = 1
          · rw [if_pos c3] at h ⊢
            by_cases d : isP ts { st with i := st.i + 1 } [91] = true
            · rw [if_pos d] at h ⊢
              exact bind_some_mono (fun x hx => ih _ _ _ _ hx) (fun x y hy => hy) h
            · rw [if_neg d] at h ⊢
              exact h
          rw [if_neg c3] at h ⊢
          by_cases c4 : isP ts st [111, 108, 100] = true
          · rw [if_pos c4] at h ⊢
            exact bind_some_mono (fun x hx => ih _ _ _ _ hx) (fun x y hy => hy) h
          rw [if_neg c4] at h ⊢
          by_cases c5 : isP ts st [114, 101, 115, 117, 108, 116] = true
          · rw [if_pos c5] at h ⊢
            exact h
          rw [if_neg c5] at h ⊢
          by_cases c6 : (tkP ts st.i).k = 3 ∧ 0 < readTL (tkP ts st.i).t
          · rw [if_pos c6] at h ⊢
            exact bind_some_mono (fun x hx => ih _ _ _ _ hx) (fun x y hy => hy) h
          rw [if_neg c6] at h ⊢
          exact h
theorem pF_add (ts : List Tok) {f m : Nat} {st : Rd} {l : List Ex} {r : Rd × List Ex} (g : Nat) (h : pF ts f m st l = some r) : pF ts (f + g) m st l = some r := by
  induction g with
  | zero => exact h
  | succ g ih => exact pF_mono ts _ _ _ _ _ ih
/-- Some fuel is enough. -/
def PFs (ts : List Tok) (m : Nat) (st : Rd) (l : List Ex) (r : Rd × List Ex) : Prop := ∃ f, pF ts f m st l = some r
theorem PFs.uniq {ts : List Tok} {m : Nat} {st : Rd} {l : List Ex} {r r' : Rd × List Ex} (h : PFs ts m st l r) (h' : PFs ts m st l r') : r = r' := by
  obtain ⟨f, h⟩ := h
  obtain ⟨g, h'⟩ := h'
  have h1 := pF_add ts g h
  have h2 := pF_add ts f h'
  rw [Nat.add_comm] at h2
  rw [h1] at h2
  exact Option.some.inj h2
end Go.Proofs.Ytnnhdkchdjddkaa.C
