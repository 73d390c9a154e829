/- Boxes and rows that the value of an expression reads; what names have, in memory: plain facts. -/
import Derived.Test.YtnnhdkchdjddkaaEvP
namespace Go.Proofs.Ytnnhdkchdjddkaa.C
open Go.RowKit
set_option linter.unusedSimpArgs false
set_option linter.unusedVariables false
theorem xsE_at : ∀ (l : List Ex) (j : Nat) (x : Ex), l[j]? = some x → ∀ i v, (exV x)[i]? = some v → (xsE l)[j * 7 + i]? = some v
  | [], j, x, h => by simp at h
  | u :: r, 0, x, h => by
    have : u = x := by simpa using h
    subst this
    intro i v hi
    have hl : i < (exV u).length := (List.getElem?_eq_some_iff.1 hi).1
    rw [show xsE (u :: r) = exV u ++ xsE r by simp [xsE], Nat.zero_mul, Nat.zero_add, List.getElem?_append_left hl]
    exact hi
  | u :: r, j + 1, x, h => by
    intro i v hi
    have ih := xsE_at r j x (by simpa using h) i v hi
    have hl : (exV u).length = 7 := rfl
    rw [show xsE (u :: r) = exV u ++ xsE r by simp [xsE], List.getElem?_append_right (by omega), hl, show (j + 1) * 7 + i - 7 = j * 7 + i by omega]
    exact ih
/-- A box with a node. -/
structure Bx7 (W : World) (D o : Nat) (x : Ex) : Prop where
  lt : D < W.heap.size
  c0 : W.cell? ⟨D, o, none⟩ = some (.int .i64 x.k)
  c1 : W.cell? ⟨D, o + 1, none⟩ = some (.int .i64 x.num)
  c2 : W.cell? ⟨D, o + 2, none⟩ = some (.int .i64 x.t)
  c3 : W.cell? ⟨D, o + 3, none⟩ = some (.string (nmB x.nm))
  c4 : W.cell? ⟨D, o + 4, none⟩ = some (.int .i64 x.a)
  c5 : W.cell? ⟨D, o + 5, none⟩ = some (.int .i64 x.b)
  c6 : W.cell? ⟨D, o + 6, none⟩ = some (.int .i64 x.at_)
theorem Bx7.below {W W' : World} {D o : Nat} {x : Ex} (h : Bx7 W D o x) (hb : Below W.heap.size W W') : Bx7 W' D o x :=
  ⟨Nat.lt_of_lt_of_le h.lt hb.size, (hb.cell (p := ⟨D, o, none⟩) h.lt).trans h.c0, (hb.cell (p := ⟨D, o + 1, none⟩) h.lt).trans h.c1, (hb.cell (p := ⟨D, o + 2, none⟩) h.lt).trans h.c2, (hb.cell (p := ⟨D, o + 3, none⟩) h.lt).trans h.c3, (hb.cell (p := ⟨D, o + 4, none⟩) h.lt).trans h.c4, (hb.cell (p := ⟨D, o + 5, none⟩) h.lt).trans h.c5, (hb.cell (p := ⟨D, o + 6, none⟩) h.lt).trans h.c6⟩
/-- A row of nodes that is read. -/
def ER (w : World) (A : Option Addr) (l : List Ex) : Prop := l ≠ [] → ∃ g, A = some ⟨g, 0, none⟩ ∧ ∀ j x, l[j]? = some x → Bx7 w g (j * 7) x
theorem ER.below {w w' : World} {A : Option Addr} {l : List Ex} (h : ER w A l) (hb : Below w.heap.size w w') : ER w' A l := fun hne => by
  obtain ⟨g, e, hc⟩ := h hne
  exact ⟨g, e, fun j x hj => (hc j x hj).below hb⟩
theorem OE.er {w : World} {B : Nat} {A : Option Addr} {l : List Ex} {c : Nat} (h : OE w B A l c) : ER w A l := by
  intro hne
  have hh : w.ownsRow B 73 7 (.slice A l.length c) l.length (xsE l) := h
  have hl : 0 < l.length := List.length_pos_iff.2 hne
  rcases h.2 with ⟨_, h2⟩ | ⟨g, cap, cur, e, hg, hc, hl2, hm, _⟩
  · omega
  · injection e with e1 e2 e3
    subst e1
    refine ⟨g, rfl, fun j x hj => ?_⟩
    have hjl : j < l.length := (List.getElem?_eq_some_iff.1 hj).1
    have key := xsE_at l j x hj
    refine ⟨(Array.getElem?_eq_some_iff.1 hc).1, ?_, ?_, ?_, ?_, ?_, ?_, ?_⟩
    · rw [hh.cellAt _ (by omega)]; exact key 0 _ rfl
    · rw [hh.cellAt _ (by omega)]; exact key 1 _ rfl
    · rw [hh.cellAt _ (by omega)]; exact key 2 _ rfl
    · rw [hh.cellAt _ (by omega)]; exact key 3 _ rfl
    · rw [hh.cellAt _ (by omega)]; exact key 4 _ rfl
    · rw [hh.cellAt _ (by omega)]; exact key 5 _ rfl
    · rw [hh.cellAt _ (by omega)]; exact key 6 _ rfl
def exA (x : Ex) : Value := .agg #[.int .i64 x.k, .int .i64 x.num, .int .i64 x.t, .string (nmB x.nm), .int .i64 x.a, .int .i64 x.b, .int .i64 x.at_]
/-- What a part of an environment holds. -/
structure NV where
  mp : Option Addr
  ba : Option Addr
  bl : Nat
  bc : Nat
def NOK (fn : FuncId) (w : World) (v : NV) (e : Env0) : Prop :=
  BN w (.slice v.ba v.bl v.bc) e.bs ∧ e.bs.length ≤ 100000 ∧ ((v.mp = none ∧ e.has = false) ∨ (∃ p : Nat, v.mp = some ⟨p, 0, none⟩ ∧ e.has = true ∧ ∀ w', Below w.heap.size w w' → ∀ id at' : Int, Calls Try.prog fn #[.pointer v.mp, .int .i64 id, .int .i64 at'] w' fun e' w'' => ∃ b, e' = .returned (.tuple #[.int .i64 (e.get id at'), .bool b]) ∧ w' = w''))
theorem NOK.below {fn : FuncId} {w w' : World} {v : NV} {e : Env0} (h : NOK fn w v e) (hb : Below w.heap.size w w') : NOK fn w' v e := by
  refine ⟨h.1.below hb, h.2.1, ?_⟩
  rcases h.2.2 with h | ⟨p, h1, h2, h3⟩
  · exact .inl h
  · exact .inr ⟨p, h1, h2, fun w'' hb2 => h3 w'' (hb.trans (hb2.mono hb.size))⟩
def envA (n o : NV) (res t : Int) : Value := .agg #[.pointer n.mp, .slice n.ba n.bl n.bc, .pointer o.mp, .slice o.ba o.bl o.bc, .int .i64 res, .int .i64 t]
/-- A box with an environment. -/
structure Bx6 (W : World) (D : Nat) (n o : NV) (res t : Int) : Prop where
  lt : D < W.heap.size
  c0 : W.cell? ⟨D, 0, none⟩ = some (.pointer n.mp)
  c1 : W.cell? ⟨D, 1, none⟩ = some (.slice n.ba n.bl n.bc)
  c2 : W.cell? ⟨D, 2, none⟩ = some (.pointer o.mp)
  c3 : W.cell? ⟨D, 3, none⟩ = some (.slice o.ba o.bl o.bc)
  c4 : W.cell? ⟨D, 4, none⟩ = some (.int .i64 res)
  c5 : W.cell? ⟨D, 5, none⟩ = some (.int .i64 t)
theorem Bx6.below {W W' : World} {D : Nat} {n o : NV} {res t : Int} (h : Bx6 W D n o res t) (hb : Below W.heap.size W W') : Bx6 W' D n o res t :=
  ⟨Nat.lt_of_lt_of_le h.lt hb.size, (hb.cell (p := ⟨D, 0, none⟩) h.lt).trans h.c0, (hb.cell (p := ⟨D, 1, none⟩) h.lt).trans h.c1, (hb.cell (p := ⟨D, 2, none⟩) h.lt).trans h.c2, (hb.cell (p := ⟨D, 3, none⟩) h.lt).trans h.c3, (hb.cell (p := ⟨D, 4, none⟩) h.lt).trans h.c4, (hb.cell (p := ⟨D, 5, none⟩) h.lt).trans h.c5⟩
/-- A box with four numbers. -/
structure Bx4 (W : World) (D : Nat) (g : Gt) : Prop where
  lt : D < W.heap.size
  c0 : W.cell? ⟨D, 0, none⟩ = some (.int .i64 g.v)
  c1 : W.cell? ⟨D, 1, none⟩ = some (.int .i64 g.t)
  c2 : W.cell? ⟨D, 2, none⟩ = some (.int .i64 g.ub)
  c3 : W.cell? ⟨D, 3, none⟩ = some (.int .i64 g.at_)
  f0 : W.frozen? ⟨D, 0, none⟩ = false
  f1 : W.frozen? ⟨D, 1, none⟩ = false
  f2 : W.frozen? ⟨D, 2, none⟩ = false
  f3 : W.frozen? ⟨D, 3, none⟩ = false
theorem Bx4.below {W W' : World} {D : Nat} {g : Gt} (h : Bx4 W D g) (hb : Below W.heap.size W W') : Bx4 W' D g :=
  ⟨Nat.lt_of_lt_of_le h.lt hb.size, (hb.cell (p := ⟨D, 0, none⟩) h.lt).trans h.c0, (hb.cell (p := ⟨D, 1, none⟩) h.lt).trans h.c1, (hb.cell (p := ⟨D, 2, none⟩) h.lt).trans h.c2, (hb.cell (p := ⟨D, 3, none⟩) h.lt).trans h.c3, (hb.frozen (p := ⟨D, 0, none⟩) h.lt).trans h.f0, (hb.frozen (p := ⟨D, 1, none⟩) h.lt).trans h.f1, (hb.frozen (p := ⟨D, 2, none⟩) h.lt).trans h.f2, (hb.frozen (p := ⟨D, 3, none⟩) h.lt).trans h.f3⟩
/-- A box with a bind. -/
structure BxB (W : World) (D : Nat) (b : Bd) : Prop where
  lt : D < W.heap.size
  c1 : W.cell? ⟨D, 1, none⟩ = some (.int .i64 b.t)
  c2 : W.cell? ⟨D, 2, none⟩ = some (.int .i64 b.size)
  c3 : W.cell? ⟨D, 3, none⟩ = some (.int .i64 b.id)
theorem BxB.below {W W' : World} {D : Nat} {b : Bd} (h : BxB W D b) (hb : Below W.heap.size W W') : BxB W' D b :=
  ⟨Nat.lt_of_lt_of_le h.lt hb.size, (hb.cell (p := ⟨D, 1, none⟩) h.lt).trans h.c1, (hb.cell (p := ⟨D, 2, none⟩) h.lt).trans h.c2, (hb.cell (p := ⟨D, 3, none⟩) h.lt).trans h.c3⟩
/-- The four stores into a box of the call's own. -/
theorem set4 {w W : World} {D : Nat} (hb : Below w.heap.size w W) (hD : w.heap.size ≤ D) (a b c d : Value) : Below w.heap.size w ((((W.setCell ⟨D, 0, none⟩ a).setCell ⟨D, 1, none⟩ b).setCell ⟨D, 2, none⟩ c).setCell ⟨D, 3, none⟩ d) :=
  (((hb.setCell (p := ⟨D, 0, none⟩) hD _).setCell (p := ⟨D, 1, none⟩) hD _).setCell (p := ⟨D, 2, none⟩) hD _).setCell (p := ⟨D, 3, none⟩) hD _
/-- What Bind answers, written out. -/
def bindV (o : Option Bd) : Value := match o with | none => .tuple #[.agg #[.string ⟨#[]⟩, .int .i64 0, .int .i64 0, .int .i64 0], .bool false] | some b => .tuple #[.agg #[.string b.nm, .int .i64 b.t, .int .i64 b.size, .int .i64 b.id], .bool true]
theorem bindV_eq (o : Option Bd) : lastV o = bindV o := by cases o <;> rfl
end Go.Proofs.Ytnnhdkchdjddkaa.C
