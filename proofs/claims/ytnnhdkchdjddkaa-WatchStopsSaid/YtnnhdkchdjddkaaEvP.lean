/- The value of an expression as a function: plain; typ.Mixed, the reference's Mixed: walks. -/
import Derived.Test.YtnnhdkchdjddkaaCondT
import Derived.Test.YtnnhdkchdjddkaaEvBack
import Derived.Test.YtnnhdkchdjddkaaRefArith
namespace Go.Proofs.Ytnnhdkchdjddkaa.C
open Go.RowKit
set_option linter.unusedSimpArgs false
set_option linter.unusedVariables false
/-- The type of an operator's answer. -/
def five (a : Int) : Int := if a = 0 then 5 else a
theorem five_0 : five 0 = 5 := rfl
theorem five_ne {a : Int} (h : (a == 0) = false) : five a = a := by
  rw [beq_eq_false_iff_ne] at h
  unfold five
  rw [if_neg h]
def mixT (k a b : Int) : Int := if k = 6 ∨ k = 7 ∨ k = 16 ∨ k = 17 then upT (five a) else joinT (five a) (five b)
/-- What a node has: value, type, undefined, where. -/
structure Gt where
  v : Int
  t : Int
  ub : Int
  at_ : Int
def gtV (g : Gt) : Value := .agg #[.int .i64 g.v, .int .i64 g.t, .int .i64 g.ub, .int .i64 g.at_]
/-- What names have. -/
structure Env0 where
  has : Bool
  get : Int → Int → Int
  bs : List Bd
def ex0 : Ex := ⟨0, 0, 0, [], 0, 0, 0⟩
def nmB (l : List UInt8) : ByteArray := ⟨l.toArray⟩
def nameP (e : Env0) (n : Ex) (idx : Int) : Gt :=
  match lastB e.bs (nmB n.nm) e.bs.length with
  | none => ⟨0, 5, 0, 0⟩
  | some b => if e.has = false then ⟨0, 5, 0, 0⟩ else if idx < 0 ∨ (if 1 < b.size then b.size else 1) ≤ idx then ⟨0, b.t, 4, n.at_⟩ else ⟨e.get b.id idx, b.t, 0, 0⟩
def nmTy (e : Env0) (n : Ex) : Int := match lastB e.bs (nmB n.nm) e.bs.length with | none => 5 | some b => if e.has = false then 5 else b.t
def twoP (k at_ : Int) (a b : Gt) : Gt :=
  let t := mixT k a.t b.t
  let r := doI k t (wrapT t a.v) (if k = 16 ∨ k = 17 then b.v else wrapT t b.v)
  if r.2 = 0 then ⟨r.1, t, 0, 0⟩ else ⟨0, t, r.2, at_⟩
def elemP (e : Env0) (n : Ex) (a : Gt) : Gt := if a.ub = 0 then nameP e n a.v else ⟨0, nmTy e n, a.ub, a.at_⟩
def castP (n : Ex) (a : Gt) : Gt := if a.ub = 0 then ⟨wrapT n.t a.v, n.t, 0, 0⟩ else ⟨0, n.t, a.ub, a.at_⟩
def unP (n : Ex) (a : Gt) : Gt := if a.ub = 0 then twoP n.k n.at_ a ⟨0, a.t, 0, 0⟩ else ⟨0, mixT n.k a.t 0, a.ub, a.at_⟩
def binP (n : Ex) (a b : Gt) : Gt := if a.ub = 0 then (if b.ub = 0 then twoP n.k n.at_ a b else ⟨0, mixT n.k a.t b.t, b.ub, b.at_⟩) else ⟨0, mixT n.k a.t b.t, a.ub, a.at_⟩
/-- The value of a node, with fuel. -/
def vF (l : List Ex) (old : Env0) (res t : Int) : Nat → Env0 → Int → Gt
  | 0, _, _ => ⟨0, 5, 0, 0⟩
  | f + 1, e, at_ =>
    if at_ < 0 ∨ (l.length : Int) ≤ at_ then ⟨0, 5, 0, 0⟩
    else
      let n := l.getD at_.toNat ex0
      if n.k = 1 then ⟨n.num, n.t, 0, 0⟩
      else if n.k = 2 then nameP e n 0
      else if n.k = 5 then ⟨res, t, 0, 0⟩
      else if n.k = 4 then vF l old res t f old n.a
      else if n.k = 3 then elemP e n (vF l old res t f e n.a)
      else if n.k = 18 then castP n (vF l old res t f e n.a)
      else if n.k = 6 ∨ n.k = 7 then unP n (vF l old res t f e n.a)
      else if n.k < 8 ∨ 17 < n.k then ⟨0, 5, 0, 0⟩
      else binP n (vF l old res t f e n.a) (vF l old res t f e n.b)
theorem kcases (k : Int) : k = 6 ∨ k = 7 ∨ k = 16 ∨ k = 17 ∨ ((k == 6) = false ∧ (k == 7) = false ∧ (k == 16) = false ∧ (k == 17) = false ∧ ¬ (k = 6 ∨ k = 7 ∨ k = 16 ∨ k = 17)) := by
  by_cases h1 : k = 6
  · exact .inl h1
  by_cases h2 : k = 7
  · exact .inr (.inl h2)
  by_cases h3 : k = 16
  · exact .inr (.inr (.inl h3))
  by_cases h4 : k = 17
  · exact .inr (.inr (.inr (.inl h4)))
  refine .inr (.inr (.inr (.inr ⟨?_, ?_, ?_, ?_, by omega⟩))) <;> rw [beq_eq_false_iff_ne] <;> assumption
theorem mixed_c (k a b : Int) (w : World) : Calls Try.prog 21 #[.int .i64 k, .int .i64 a, .int .i64 b] w fun e w' => e = .returned (.int .i64 (mixT k a b)) ∧ w = w' := by
  obtain ⟨q, hq⟩ : ∃ q, mixT k a b = q := ⟨_, rfl⟩
  have HQ := Lib.hid hq
  rw [hq]
  clear hq
  have HA : (a = 0 ∧ Hid (five a = 5)) ∨ ((a == 0) = false ∧ Hid (five a = a)) := by
    by_cases h : a = 0
    · exact .inl ⟨h, Lib.hid (by rw [h]; rfl)⟩
    · exact .inr ⟨by rw [beq_eq_false_iff_ne]; exact h, Lib.hid (five_ne (by rw [beq_eq_false_iff_ne]; exact h))⟩
  have HB : (b = 0 ∧ Hid (five b = 5)) ∨ ((b == 0) = false ∧ Hid (five b = b)) := by
    by_cases h : b = 0
    · exact .inl ⟨h, Lib.hid (by rw [h]; rfl)⟩
    · exact .inr ⟨by rw [beq_eq_false_iff_ne]; exact h, Lib.hid (five_ne (by rw [beq_eq_false_iff_ne]; exact h))⟩
  rcases HA with ⟨rfl, EA⟩ | ⟨ha, EA⟩
  all_goals rcases HB with ⟨rfl, EB⟩ | ⟨hb, EB⟩
  all_goals rcases kcases k with rfl | rfl | rfl | rfl | ⟨g6, g7, g16, g17, gk⟩
  all_goals try have GK := Lib.hid gk
  all_goals try clear gk
  all_goals go_enter Try.func21, Try.ntmps21
  all_goals go_wp2_with (first | (go_at_call 31; refine (up_c _ _).mono ?_; rintro e w' ⟨rfl, rfl⟩) | (go_at_call 32; refine (join_c _ _ _).mono ?_; rintro e w' ⟨rfl, rfl⟩))
  all_goals go_ret
  all_goals first | exact ⟨by rw [← HQ.out]; unfold mixT; rw [if_pos (by omega), EA.out]; rfl, rfl⟩ | exact ⟨by rw [← HQ.out]; unfold mixT; rw [if_neg GK.out, EA.out]; (try rw [EB.out]); rfl, rfl⟩
end Go.Proofs.Ytnnhdkchdjddkaa.C
