/- The reference's reader of conditions as a function; what its nodes are like: plain Lean. -/
import Derived.Test.YtnnhdkchdjddkaaParS
import Derived.Test.YtnnhdkchdjddkaaParV
namespace Go.Proofs.Ytnnhdkchdjddkaa.C
open Go.RowKit
set_option linter.unusedSimpArgs false
set_option linter.unusedVariables false
/-- A node of a condition. -/
structure Cd where
  k : Int
  rel : Int
  x : List Ex
  y : List Ex
  a : Int
  b : Int
  at_ : Int
def cdP (k a b at_ : Int) : Cd := ⟨k, 0, [], [], a, b, at_⟩
/-- Is a relation there? -/
def relP (ts : List Tok) (st : Rd) : Bool := decide (st.e = 0) && (decide ((tkP ts st.i).k = 4) && !decide (relL (tkP ts st.i).t = 0))
/-- The reader of conditions, with fuel. Modes: 0 cond, 1 both, 2 one, 3 on with 'or', 4 on with 'and'. -/
def cF (ts : List Tok) : Nat → Nat → Rd → List Cd → Option (Rd × List Cd)
  | 0, _, _, _ => none
  | f + 1, m, st, l =>
    if m = 0 then (cF ts f 1 st l).bind (fun r => cF ts f 3 r.1 r.2)
    else if m = 1 then (cF ts f 2 st l).bind (fun r => cF ts f 4 r.1 r.2)
    else if m = 3 then
      if isP ts st [111, 114] = true then (cF ts f 1 { st with i := st.i + 1 } l).bind (fun r => cF ts f 3 r.1 (r.2 ++ [cdP 4 ((l.length : Int) - 1) ((r.2.length : Int) - 1) (tkP ts st.i).at_]))
      else some (st, l)
    else if m = 4 then
      if isP ts st [97, 110, 100] = true then (cF ts f 2 { st with i := st.i + 1 } l).bind (fun r => cF ts f 4 r.1 (r.2 ++ [cdP 3 ((l.length : Int) - 1) ((r.2.length : Int) - 1) (tkP ts st.i).at_]))
      else some (st, l)
    else if st.e ≠ 0 then some (st, l)
    else if isP ts st [110, 111, 116] = true then (cF ts f 2 (openP ts st [110, 111, 116]) l).bind (fun r => some (upP r.1, r.2 ++ [cdP 2 ((r.2.length : Int) - 1) (-1) (tkP ts st.i).at_]))
    else if isP ts st [91] = true then (cF ts f 0 (openP ts st [91]) l).bind (fun r => some (upP (wantP ts r.1 [93]), r.2))
    else (pF ts f 0 st []).bind (fun x =>
      if relP ts x.1 = true then (pF ts f 0 { x.1 with i := x.1.i + 1 } []).bind (fun y => some (y.1, l ++ [⟨1, relL (tkP ts x.1.i).t, x.2, y.2, -1, -1, (tkP ts x.1.i).at_⟩]))
      else some (failP ts x.1 5, l))
theorem cF_mono (ts : List Tok) : ∀ (f m : Nat) (st : Rd) (l : List Cd) (r : Rd × List Cd), cF ts f m st l = some r → cF ts (f + 1) m st l = some r := by
  intro f
  induction f with
  | zero => intro m st l r h; cases h
  | succ f ih =>
    intro m st l r h
    rw [cF] at h ⊢
    by_cases m0 : m = 0
    · rw [if_pos m0] at h ⊢
      exact bind_some_mono (fun x hx => ih _ _ _ _ hx) (fun x y hy => ih _ _ _ _ hy) h
    rw [if_neg m0] at h ⊢
    by_cases m1 : m = 1
    · rw [if_pos m1] at h ⊢
      exact bind_some_mono (fun x hx => ih _ _ _ _ hx) (fun x y hy => ih _ _ _ _ hy) h
    rw [if_neg m1] at h ⊢
    by_cases m3 : m = 3
    · rw [if_pos m3] at h ⊢
      by_cases q : isP ts st [111, 114] = true
      · rw [if_pos q] at h ⊢
        exact bind_some_mono (fun x hx => ih _ _ _ _ hx) (fun x y hy => ih _ _ _ _ hy) h
      · rw [if_neg q] at h ⊢
        exact h
    rw [if_neg m3] at h ⊢
    by_cases m4 : m = 4
    · rw [if_pos m4] at h ⊢
      by_cases q : isP ts st [97, 110, 100] = true
      · rw [if_pos q] at h ⊢
        exact bind_some_mono (fun x hx => ih _ _ _ _ hx) (fun x y hy => ih _ _ _ _ hy) h
      · rw [if_neg q] at h ⊢
        exact h
    rw [if_neg m4] at h ⊢
    by_cases h0 : st.e ≠ 0
    · rw [if_pos h0] at h ⊢
      exact h
    rw [if_neg h0] at h ⊢
    by_cases q1 : isP ts st [110, 111, 116] = true
    · rw [if_pos q1] at h ⊢
      exact bind_some_mono (fun x hx => ih _ _ _ _ hx) (fun x y hy => hy) h
    rw [if_neg q1] at h ⊢
    by_cases q2 : isP ts st [91] = true
    · rw [if_pos q2] at h ⊢
      exact bind_some_mono (fun x hx => ih _ _ _ _ hx) (fun x y hy => hy) h
    rw [if_neg q2] at h ⊢
    refine bind_some_mono (fun x hx => pF_mono ts _ _ _ _ _ hx) (fun x y hy => ?_) h
    by_cases q3 : relP ts x.1 = true
    · rw [if_pos q3] at hy ⊢
      exact bind_some_mono (fun x hx => pF_mono ts _ _ _ _ _ hx) (fun x y hy => hy) hy
    · rw [if_neg q3] at hy ⊢
      exact hy
theorem cF_add (ts : List Tok) {f m : Nat} {st : Rd} {l : List Cd} {r : Rd × List Cd} (g : Nat) (h : cF ts f m st l = some r) : cF ts (f + g) m st l = some r := by
  induction g with
  | zero => exact h
  | succ g ih => exact cF_mono ts _ _ _ _ _ ih
theorem cF_add' (ts : List Tok) {f m : Nat} {st : Rd} {l : List Cd} {r : Rd × List Cd} (g : Nat) (h : cF ts f m st l = some r) : cF ts (g + f) m st l = some r := by
  rw [Nat.add_comm]
  exact cF_add ts g h
theorem pF_add' (ts : List Tok) {f m : Nat} {st : Rd} {l : List Ex} {r : Rd × List Ex} (g : Nat) (h : pF ts f m st l = some r) : pF ts (g + f) m st l = some r := by
  rw [Nat.add_comm]
  exact pF_add ts g h
/-- Some fuel is enough. -/
def CFs (ts : List Tok) (m : Nat) (st : Rd) (l : List Cd) (r : Rd × List Cd) : Prop := ∃ f, cF ts f m st l = some r
theorem CFs.uniq {ts : List Tok} {m : Nat} {st : Rd} {l : List Cd} {r r' : Rd × List Cd} (h : CFs ts m st l r) (h' : CFs ts m st l r') : r = r' := by
  obtain ⟨f, h⟩ := h
  obtain ⟨g, h'⟩ := h'
  have h1 := cF_add ts g h
  have h2 := cF_add' ts f h'
  rw [h1] at h2
  exact Option.some.inj h2
theorem CFs_cond {ts : List Tok} {st : Rd} {l : List Cd} {r1 r : Rd × List Cd} (h : CFs ts 1 st l r1) (h2 : CFs ts 3 r1.1 r1.2 r) : CFs ts 0 st l r := by
  obtain ⟨f, hf⟩ := h
  obtain ⟨g, hg⟩ := h2
  refine ⟨f + g + 1, ?_⟩
  rw [cF, if_pos rfl, cF_add ts g hf]
  exact cF_add' ts f hg
theorem CFs_both {ts : List Tok} {st : Rd} {l : List Cd} {r1 r : Rd × List Cd} (h : CFs ts 2 st l r1) (h2 : CFs ts 4 r1.1 r1.2 r) : CFs ts 1 st l r := by
  obtain ⟨f, hf⟩ := h
  obtain ⟨g, hg⟩ := h2
  refine ⟨f + g + 1, ?_⟩
  rw [cF, if_neg (by decide), if_pos rfl, cF_add ts g hf]
  exact cF_add' ts f hg
theorem CFs_end3 {ts : List Tok} {st : Rd} {l : List Cd} (h : isP ts st [111, 114] = false) : CFs ts 3 st l (st, l) := by
  refine ⟨1, ?_⟩
  rw [cF, if_neg (by decide), if_neg (by decide), if_pos rfl, if_neg (by rw [h]; simp)]
theorem CFs_end4 {ts : List Tok} {st : Rd} {l : List Cd} (h : isP ts st [97, 110, 100] = false) : CFs ts 4 st l (st, l) := by
  refine ⟨1, ?_⟩
  rw [cF, if_neg (by decide), if_neg (by decide), if_neg (by decide), if_pos rfl, if_neg (by rw [h]; simp)]
theorem CFs_on3 {ts : List Tok} {st : Rd} {l : List Cd} {r1 r : Rd × List Cd} (h : isP ts st [111, 114] = true) (h1 : CFs ts 1 { st with i := st.i + 1 } l r1) (h2 : CFs ts 3 r1.1 (r1.2 ++ [cdP 4 ((l.length : Int) - 1) ((r1.2.length : Int) - 1) (tkP ts st.i).at_]) r) : CFs ts 3 st l r := by
  obtain ⟨f, hf⟩ := h1
  obtain ⟨g, hg⟩ := h2
  refine ⟨f + g + 1, ?_⟩
  rw [cF, if_neg (by decide), if_neg (by decide), if_pos rfl, if_pos h, cF_add ts g hf]
  exact cF_add' ts f hg
theorem CFs_on4 {ts : List Tok} {st : Rd} {l : List Cd} {r1 r : Rd × List Cd} (h : isP ts st [97, 110, 100] = true) (h1 : CFs ts 2 { st with i := st.i + 1 } l r1) (h2 : CFs ts 4 r1.1 (r1.2 ++ [cdP 3 ((l.length : Int) - 1) ((r1.2.length : Int) - 1) (tkP ts st.i).at_]) r) : CFs ts 4 st l r := by
  obtain ⟨f, hf⟩ := h1
  obtain ⟨g, hg⟩ := h2
  refine ⟨f + g + 1, ?_⟩
  rw [cF, if_neg (by decide), if_neg (by decide), if_neg (by decide), if_pos rfl, if_pos h, cF_add ts g hf]
  exact cF_add' ts f hg
theorem CFs_err {ts : List Tok} {st : Rd} {l : List Cd} (h : st.e ≠ 0) : CFs ts 2 st l (st, l) := by
  refine ⟨1, ?_⟩
  rw [cF, if_neg (by decide), if_neg (by decide), if_neg (by decide), if_neg (by decide), if_pos h]
theorem CFs_not {ts : List Tok} {st : Rd} {l : List Cd} {r1 : Rd × List Cd} (h0 : st.e = 0) (h : isP ts st [110, 111, 116] = true) (h1 : CFs ts 2 (openP ts st [110, 111, 116]) l r1) : CFs ts 2 st l (upP r1.1, r1.2 ++ [cdP 2 ((r1.2.length : Int) - 1) (-1) (tkP ts st.i).at_]) := by
  obtain ⟨f, hf⟩ := h1
  refine ⟨f + 1, ?_⟩
  rw [cF, if_neg (by decide), if_neg (by decide), if_neg (by decide), if_neg (by decide), if_neg (by rw [h0]; simp), if_pos h, hf]
  rfl
theorem CFs_in {ts : List Tok} {st : Rd} {l : List Cd} {r1 : Rd × List Cd} (h0 : st.e = 0) (hn : isP ts st [110, 111, 116] = false) (h : isP ts st [91] = true) (h1 : CFs ts 0 (openP ts st [91]) l r1) : CFs ts 2 st l (upP (wantP ts r1.1 [93]), r1.2) := by
  obtain ⟨f, hf⟩ := h1
  refine ⟨f + 1, ?_⟩
  rw [cF, if_neg (by decide), if_neg (by decide), if_neg (by decide), if_neg (by decide), if_neg (by rw [h0]; simp), if_neg (by rw [hn]; simp), if_pos h, hf]
  rfl
theorem CFs_no {ts : List Tok} {st : Rd} {l : List Cd} {x : Rd × List Ex} (h0 : st.e = 0) (hn : isP ts st [110, 111, 116] = false) (h : isP ts st [91] = false) (h1 : PFs ts 0 st [] x) (hr : relP ts x.1 = false) : CFs ts 2 st l (failP ts x.1 5, l) := by
  obtain ⟨f, hf⟩ := h1
  refine ⟨f + 1, ?_⟩
  rw [cF, if_neg (by decide), if_neg (by decide), if_neg (by decide), if_neg (by decide), if_neg (by rw [h0]; simp), if_neg (by rw [hn]; simp), if_neg (by rw [h]; simp), hf]
  simp [Option.bind, hr]
theorem CFs_rel {ts : List Tok} {st : Rd} {l : List Cd} {x y : Rd × List Ex} (h0 : st.e = 0) (hn : isP ts st [110, 111, 116] = false) (h : isP ts st [91] = false) (h1 : PFs ts 0 st [] x) (hr : relP ts x.1 = true) (h2 : PFs ts 0 { x.1 with i := x.1.i + 1 } [] y) :
    CFs ts 2 st l (y.1, l ++ [⟨1, relL (tkP ts x.1.i).t, x.2, y.2, -1, -1, (tkP ts x.1.i).at_⟩]) := by
  obtain ⟨f, hf⟩ := h1
  obtain ⟨g, hg⟩ := h2
  refine ⟨f + g + 1, ?_⟩
  rw [cF, if_neg (by decide), if_neg (by decide), if_neg (by decide), if_neg (by decide), if_neg (by rw [h0]; simp), if_neg (by rw [hn]; simp), if_neg (by rw [h]; simp), pF_add ts g hf]
  simp only [Option.bind, hr, if_true, pF_add' ts f hg]
/-- The kids of a node stand ahead of it. -/
def Kids (l : List Ex) : Prop := ∀ (i : Nat) (x : Ex), l[i]? = some x → (x.a < (i : Int) ∧ x.b < (i : Int)) ∧ (-1 ≤ x.a ∧ -1 ≤ x.b)
theorem Kids.nil : Kids [] := fun i x h => by simp at h
theorem Kids.snoc {l : List Ex} {X : Ex} (h : Kids l) (ha : X.a < (l.length : Int)) (hb : X.b < (l.length : Int)) (ha1 : -1 ≤ X.a) (hb1 : -1 ≤ X.b) : Kids (l ++ [X]) := by
  intro i x hi
  rcases Nat.lt_or_ge i l.length with h1 | h1
  · rw [List.getElem?_append_left h1] at hi
    exact h i x hi
  · have hl := (List.getElem?_eq_some_iff.1 hi).1
    rw [List.length_append] at hl
    obtain rfl : i = l.length := by have : [X].length = 1 := rfl; omega
    rw [List.getElem?_append_right (Nat.le_refl _)] at hi
    simp at hi
    subst hi
    exact ⟨⟨ha, hb⟩, ha1, hb1⟩
theorem pF_kids (ts : List Tok) : ∀ (f m : Nat) (st : Rd) (l : List Ex) (r : Rd × List Ex), pF ts f m st l = some r → Kids l → l.length ≤ r.2.length ∧ Kids r.2 := by
  intro f
  induction f with
  | zero => intro m st l r h; cases h
  | succ f ih =>
    intro m st l r h hk
    have step : ∀ {m' st'} {g : Rd × List Ex → Rd} {X : Rd × List Ex → Ex}, ((pF ts f m' st' l).bind fun r => some (g r, r.2 ++ [X r])) = some r → (∀ q, (X q).a < (q.2.length : Int) ∧ (X q).b < (q.2.length : Int) ∧ -1 ≤ (X q).a ∧ -1 ≤ (X q).b) → l.length ≤ r.2.length ∧ Kids r.2 := by
      intro m' st' g X he hX
      obtain ⟨q, hq, e⟩ := Option.bind_eq_some_iff.1 he
      obtain ⟨a1, a2⟩ := ih _ _ _ _ hq hk
      cases e
      refine ⟨?_, a2.snoc (hX q).1 (hX q).2.1 (hX q).2.2.1 (hX q).2.2.2⟩
      show l.length ≤ (q.2 ++ [X q]).length
      rw [List.length_append]
      omega
    have stop : ∀ {g : Rd} {X : Ex}, (some (g, l ++ [X]) : Option (Rd × List Ex)) = some r → (X.a = -1 ∧ X.b = -1) → l.length ≤ r.2.length ∧ Kids r.2 := by
      intro g X he hX
      cases he
      refine ⟨?_, hk.snoc (by omega) (by omega) (by omega) (by omega)⟩
      show l.length ≤ (l ++ [X]).length
      rw [List.length_append]
      omega
    rw [pF] at h
    by_cases h1 : m < 4
    · rw [if_pos h1] at h
      obtain ⟨q, hq, e⟩ := Option.bind_eq_some_iff.1 h
      obtain ⟨a1, a2⟩ := ih _ _ _ _ hq hk
      obtain ⟨b1, b2⟩ := ih _ _ _ _ e a2
      exact ⟨by omega, b2⟩
    rw [if_neg h1] at h
    by_cases h2 : 4 < m
    · rw [if_pos h2] at h
      by_cases h3 : st.e ≠ 0
      · rw [if_pos h3] at h; cases h; exact ⟨Nat.le_refl _, hk⟩
      rw [if_neg h3] at h
      by_cases h4 : pickP ts st (levelP (m - 5)) = 0
      · rw [if_pos h4] at h; cases h; exact ⟨Nat.le_refl _, hk⟩
      rw [if_neg h4] at h
      obtain ⟨q, hq, e⟩ := Option.bind_eq_some_iff.1 h
      obtain ⟨a1, a2⟩ := ih _ _ _ _ hq hk
      obtain ⟨b1, b2⟩ := ih _ _ _ _ e (a2.snoc (by show (l.length : Int) - 1 < _; omega) (by show (q.2.length : Int) - 1 < _; omega) (by show -1 ≤ (l.length : Int) - 1; omega) (by show -1 ≤ (q.2.length : Int) - 1; omega))
      rw [List.length_append] at b1
      exact ⟨by omega, b2⟩
    rw [if_neg h2] at h
    by_cases h3 : st.e ≠ 0
    · rw [if_pos h3] at h; cases h; exact ⟨Nat.le_refl _, hk⟩
    rw [if_neg h3] at h
    simp only at h
    by_cases c0 : isP ts st [45] = true ∨ isP ts st [126] = true
    · rw [if_pos c0] at h
      exact step h (fun q => ⟨by show (q.2.length : Int) - 1 < _; omega, by show (-1 : Int) < _; omega, by show -1 ≤ (q.2.length : Int) - 1; omega, by show (-1 : Int) ≤ -1; omega⟩)
    rw [if_neg c0] at h
    by_cases c1 : isP ts st [40] = true
    · rw [if_pos c1] at h
      obtain ⟨q, hq, e⟩ := Option.bind_eq_some_iff.1 h
      cases e
      have := ih _ _ _ q hq hk
      exact this
    rw [if_neg c1] at h
    by_cases c2 : (tkP ts st.i).k = 2
    · rw [if_pos c2] at h
      exact stop h ⟨rfl, rfl⟩
    rw [if_neg c2] at h
    by_cases c3 : (tkP ts st.i).k = 1
    · rw [if_pos c3] at h
      by_cases d : isP ts { st with i := st.i + 1 } [91] = true
      · rw [if_pos d] at h
        exact step h (fun q => ⟨by show (q.2.length : Int) - 1 < _; omega, by show (-1 : Int) < _; omega, by show -1 ≤ (q.2.length : Int) - 1; omega, by show (-1 : Int) ≤ -1; omega⟩)
      · rw [if_neg d] at h
        exact stop h ⟨rfl, rfl⟩
    rw [if_neg c3] at h
    by_cases c4 : isP ts st [111, 108, 100] = true
    · rw [if_pos c4] at h
      exact step h (fun q => ⟨by show (q.2.length : Int) - 1 < _; omega, by show (-1 : Int) < _; omega, by show -1 ≤ (q.2.length : Int) - 1; omega, by show (-1 : Int) ≤ -1; omega⟩)
    rw [if_neg c4] at h
    by_cases c5 : isP ts st [114, 101, 115, 117, 108, 116] = true
    · rw [if_pos c5] at h
      exact stop h ⟨rfl, rfl⟩
    rw [if_neg c5] at h
    by_cases c6 : (tkP ts st.i).k = 3 ∧ 0 < readTL (tkP ts st.i).t
    · rw [if_pos c6] at h
      exact step h (fun q => ⟨by show (q.2.length : Int) - 1 < _; omega, by show (-1 : Int) < _; omega, by show -1 ≤ (q.2.length : Int) - 1; omega, by show (-1 : Int) ≤ -1; omega⟩)
    rw [if_neg c6] at h
    cases h
    exact ⟨Nat.le_refl _, hk⟩
theorem PFs.kids {ts : List Tok} {m : Nat} {st : Rd} {r : Rd × List Ex} (h : PFs ts m st [] r) : Kids r.2 := by
  obtain ⟨f, hf⟩ := h
  exact (pF_kids ts f m st [] r hf Kids.nil).2
/-- Likewise, of conditions. -/
def KidsC (l : List Cd) : Prop := ∀ (i : Nat) (x : Cd), l[i]? = some x → ((x.a < (i : Int) ∧ x.b < (i : Int)) ∧ (-1 ≤ x.a ∧ -1 ≤ x.b)) ∧ Kids x.x ∧ Kids x.y
theorem KidsC.nil : KidsC [] := fun i x h => by simp at h
theorem KidsC.snoc {l : List Cd} {X : Cd} (h : KidsC l) (ha : X.a < (l.length : Int)) (hb : X.b < (l.length : Int)) (ha1 : -1 ≤ X.a) (hb1 : -1 ≤ X.b) (hx : Kids X.x) (hy : Kids X.y) : KidsC (l ++ [X]) := by
  intro i x hi
  rcases Nat.lt_or_ge i l.length with h1 | h1
  · rw [List.getElem?_append_left h1] at hi
    exact h i x hi
  · have hl := (List.getElem?_eq_some_iff.1 hi).1
    rw [List.length_append] at hl
    obtain rfl : i = l.length := by have : [X].length = 1 := rfl; omega
    rw [List.getElem?_append_right (Nat.le_refl _)] at hi
    simp at hi
    subst hi
    exact ⟨⟨⟨ha, hb⟩, ha1, hb1⟩, hx, hy⟩
theorem cF_kids (ts : List Tok) : ∀ (f m : Nat) (st : Rd) (l : List Cd) (r : Rd × List Cd), cF ts f m st l = some r → KidsC l → l.length ≤ r.2.length ∧ KidsC r.2 := by
  intro f
  induction f with
  | zero => intro m st l r h; cases h
  | succ f ih =>
    intro m st l r h hk
    have two : ∀ {m1 m2 st1}, ((cF ts f m1 st1 l).bind fun r => cF ts f m2 r.1 r.2) = some r → l.length ≤ r.2.length ∧ KidsC r.2 := by
      intro m1 m2 st1 he
      obtain ⟨q, hq, e⟩ := Option.bind_eq_some_iff.1 he
      obtain ⟨a1, a2⟩ := ih _ _ _ _ hq hk
      obtain ⟨b1, b2⟩ := ih _ _ _ _ e a2
      exact ⟨by omega, b2⟩
    have on : ∀ {m1 m2 st1} {k at_ : Int}, ((cF ts f m1 st1 l).bind fun r => cF ts f m2 r.1 (r.2 ++ [cdP k ((l.length : Int) - 1) ((r.2.length : Int) - 1) at_])) = some r → l.length ≤ r.2.length ∧ KidsC r.2 := by
      intro m1 m2 st1 k at_ he
      obtain ⟨q, hq, e⟩ := Option.bind_eq_some_iff.1 he
      obtain ⟨a1, a2⟩ := ih _ _ _ _ hq hk
      obtain ⟨b1, b2⟩ := ih _ _ _ _ e (a2.snoc (by show (l.length : Int) - 1 < _; omega) (by show (q.2.length : Int) - 1 < _; omega) (by show -1 ≤ (l.length : Int) - 1; omega) (by show -1 ≤ (q.2.length : Int) - 1; omega) Kids.nil Kids.nil)
      rw [List.length_append] at b1
      exact ⟨by omega, b2⟩
    rw [cF] at h
    by_cases m0 : m = 0
    · rw [if_pos m0] at h
      exact two h
    rw [if_neg m0] at h
    by_cases m1 : m = 1
    · rw [if_pos m1] at h
      exact two h
    rw [if_neg m1] at h
    by_cases m3 : m = 3
    · rw [if_pos m3] at h
      by_cases q : isP ts st [111, 114] = true
      · rw [if_pos q] at h
        exact on h
      · rw [if_neg q] at h
        cases h
        exact ⟨Nat.le_refl _, hk⟩
    rw [if_neg m3] at h
    by_cases m4 : m = 4
    · rw [if_pos m4] at h
      by_cases q : isP ts st [97, 110, 100] = true
      · rw [if_pos q] at h
        exact on h
      · rw [if_neg q] at h
        cases h
        exact ⟨Nat.le_refl _, hk⟩
    rw [if_neg m4] at h
    by_cases h0 : st.e ≠ 0
    · rw [if_pos h0] at h
      cases h
      exact ⟨Nat.le_refl _, hk⟩
    rw [if_neg h0] at h
    by_cases q1 : isP ts st [110, 111, 116] = true
    · rw [if_pos q1] at h
      obtain ⟨q, hq, e⟩ := Option.bind_eq_some_iff.1 h
      obtain ⟨a1, a2⟩ := ih _ _ _ _ hq hk
      cases e
      refine ⟨?_, a2.snoc (by show (q.2.length : Int) - 1 < _; omega) (by show (-1 : Int) < _; omega) (by show -1 ≤ (q.2.length : Int) - 1; omega) (by show (-1 : Int) ≤ -1; omega) Kids.nil Kids.nil⟩
      show l.length ≤ (q.2 ++ _).length
      rw [List.length_append]
      omega
    rw [if_neg q1] at h
    by_cases q2 : isP ts st [91] = true
    · rw [if_pos q2] at h
      obtain ⟨q, hq, e⟩ := Option.bind_eq_some_iff.1 h
      cases e
      have := ih _ _ _ q hq hk
      exact this
    rw [if_neg q2] at h
    obtain ⟨x, hx, e⟩ := Option.bind_eq_some_iff.1 h
    by_cases q3 : relP ts x.1 = true
    · rw [if_pos q3] at e
      obtain ⟨y, hy, e⟩ := Option.bind_eq_some_iff.1 e
      cases e
      refine ⟨?_, hk.snoc (by show (-1 : Int) < _; omega) (by show (-1 : Int) < _; omega) (by show (-1 : Int) ≤ -1; omega) (by show (-1 : Int) ≤ -1; omega) (PFs.kids ⟨f, hx⟩) (PFs.kids ⟨f, hy⟩)⟩
      show l.length ≤ (l ++ _).length
      rw [List.length_append]
      omega
    · rw [if_neg q3] at e
      cases e
      exact ⟨Nat.le_refl _, hk⟩
end Go.Proofs.Ytnnhdkchdjddkaa.C
