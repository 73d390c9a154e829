/- Rows of tokens in memory; the world inside Lex: plain facts. -/
import Derived.Test.YtnnhdkchdjddkaaLexOne
import Derived.Lib.LazyBuf
import Derived.Laws.OwnMore
import Derived.Maps.AppendAt
import Derived.Deep.RegionLaw
import Derived.Deep.AppendLies
namespace Go.Proofs.Ytnnhdkchdjddkaa.C
open Go.RowKit
set_option linter.unusedSimpArgs false
set_option linter.unusedVariables false
theorem t_plain (g j : Nat) : (⟨g, 0, none⟩ : Addr).add j = ⟨g, j, none⟩ := by unfold Addr.add; split <;> simp_all
theorem ownT_below {w w1 : World} {base : Nat} {e : TypeId} {size : Nat} {v : Value} {n : Nat} {xs : List Value} (h : w.ownsRow base e size v n xs) (hb : Below w.heap.size w w1) : w1.ownsRow base e size v n xs := by
  obtain ⟨h1, h2⟩ := h
  refine ⟨h1, ?_⟩
  rcases h2 with h2 | ⟨g, cap, cur, rfl, hg, hh, r⟩
  · exact .inl h2
  · exact .inr ⟨g, cap, cur, rfl, hg, (hb.block g (Array.getElem?_eq_some_iff.1 hh).1).trans hh, r⟩
theorem infoTok : (Try.prog.info? 49).map (fun i => (i.zero, i.size, i.bytes)) = some (some (.agg #[.int .i64 0, .string ByteArray.empty, .int .i64 0]), 3, 32) := by kernel_rfl
/-- The cells of a token. -/
def tokV (t : Tok) : List Value := [.int .i64 t.k, .string ⟨t.t.toArray⟩, .int .i64 (t.at_ : Int)]
def xsT (ts : List Tok) : List Value := ts.flatMap tokV
theorem xsT_len (ts : List Tok) : (xsT ts).length = ts.length * 3 := by
  induction ts with
  | nil => rfl
  | cons t r ih => simp [xsT, tokV] at ih ⊢; omega
theorem xsT_snoc (ts : List Tok) (t : Tok) : xsT (ts ++ [t]) = xsT ts ++ tokV t := by simp [xsT]
theorem xsT_at : ∀ (ts : List Tok) (j : Nat) (t : Tok), ts[j]? = some t → (xsT ts)[j * 3]? = some (.int .i64 t.k) ∧ (xsT ts)[j * 3 + 1]? = some (.string ⟨t.t.toArray⟩) ∧ (xsT ts)[j * 3 + 2]? = some (.int .i64 (t.at_ : Int))
  | [], j, t, h => by simp at h
  | u :: r, 0, t, h => by
    have : u = t := by simpa using h
    subst this
    simp [xsT, tokV]
  | u :: r, j + 1, t, h => by
    have ih := xsT_at r j t (by simpa using h)
    have e : xsT (u :: r) = tokV u ++ xsT r := by simp [xsT]
    have hl : (tokV u).length = 3 := rfl
    rw [e, List.getElem?_append_right (by omega), List.getElem?_append_right (by omega), List.getElem?_append_right (by omega), hl]
    rw [show (j + 1) * 3 - 3 = j * 3 by omega, show (j + 1) * 3 + 1 - 3 = j * 3 + 1 by omega, show (j + 1) * 3 + 2 - 3 = j * 3 + 2 by omega]
    exact ih
/-- A row of tokens of the call's own. -/
def OT (w : World) (base : Nat) (A : Option Addr) (ts : List Tok) (c : Nat) : Prop := w.ownsRow base 49 3 (.slice A ts.length c) ts.length (xsT ts)
/-- A row of tokens that is read. -/
def TR (w : World) (A : Option Addr) (ts : List Tok) : Prop := ts ≠ [] → ∃ g, A = some ⟨g, 0, none⟩ ∧ g < w.heap.size ∧ ∀ j t, ts[j]? = some t → w.cell? ⟨g, j * 3, none⟩ = some (.int .i64 t.k) ∧ w.cell? ⟨g, j * 3 + 1, none⟩ = some (.string ⟨t.t.toArray⟩) ∧ w.cell? ⟨g, j * 3 + 2, none⟩ = some (.int .i64 (t.at_ : Int))
theorem OT.tr {w : World} {base : Nat} {A : Option Addr} {ts : List Tok} {c : Nat} (h : OT w base A ts c) : TR w A ts := by
  intro hne
  have hh : w.ownsRow base 49 3 (.slice A ts.length c) ts.length (xsT ts) := h
  have hl : 0 < ts.length := List.length_pos_iff.2 hne
  rcases h.2 with ⟨_, h2⟩ | ⟨g, cap, cur, e, hg, hc, hl2, hm, _⟩
  · omega
  · injection e with e1 e2 e3
    subst e1
    refine ⟨g, rfl, (Array.getElem?_eq_some_iff.1 hc).1, fun j t hj => ?_⟩
    have hjl : j < ts.length := (List.getElem?_eq_some_iff.1 hj).1
    obtain ⟨x0, x1, x2⟩ := xsT_at ts j t hj
    refine ⟨?_, ?_, ?_⟩
    · rw [hh.cellAt _ (by omega)]; exact x0
    · rw [hh.cellAt _ (by omega)]; exact x1
    · rw [hh.cellAt _ (by omega)]; exact x2
theorem TR.below {w w' : World} {A : Option Addr} {ts : List Tok} (h : TR w A ts) (hb : Below w.heap.size w w') : TR w' A ts := by
  intro hne
  obtain ⟨g, hA, hg, hc⟩ := h hne
  refine ⟨g, hA, by have := hb.size; omega, fun j t hj => ?_⟩
  obtain ⟨c0, c1, c2⟩ := hc j t hj
  exact ⟨(hb.cell (p := ⟨g, j * 3, none⟩) hg).trans c0, (hb.cell (p := ⟨g, j * 3 + 1, none⟩) hg).trans c1, (hb.cell (p := ⟨g, j * 3 + 2, none⟩) hg).trans c2⟩
theorem TR.nil (w : World) (A : Option Addr) : TR w A [] := fun h => absurd rfl h
theorem tok_bd (W : World) (cs : Array Value) (t : TypeId) : ∀ j u, cs.toList[j]? = some u → (W.alloc (.cells cs t)).cell? ((⟨W.heap.size, 0, none⟩ : Addr).add j) = some u := by
  intro j u hu
  rw [t_plain, cell_of_row _ _ _ _ _ _ (heap_alloc_new W _)]
  simpa using hu
/-- The world inside Lex. -/
def LexIn (w : World) (s : ByteArray) (A : Option Addr) (ts : List Tok) (c a : Nat) (wr : World) : Prop :=
  Below w.heap.size w wr ∧ w.heap.size + 1 < wr.heap.size ∧ wr.cell? ⟨w.heap.size, 0, none⟩ = some (.string s) ∧ wr.cell? ⟨w.heap.size + 1, 0, none⟩ = some (.int .i64 (a : Int)) ∧ wr.frozen? ⟨w.heap.size + 1, 0, none⟩ = false ∧ OT wr (w.heap.size + 2) A ts c
theorem LexIn.below {w wr w1 : World} {s : ByteArray} {A : Option Addr} {ts : List Tok} {c a : Nat} (h : LexIn w s A ts c a wr) (hb : Below wr.heap.size wr w1) : LexIn w s A ts c a w1 := by
  obtain ⟨h1, h2, h3, h4, h5, h6⟩ := h
  have hs := hb.size
  exact ⟨below_next h1 h1.size hb, by omega, (hb.cell (p := ⟨w.heap.size, 0, none⟩) (by show w.heap.size < _; omega)).trans h3, (hb.cell (p := ⟨w.heap.size + 1, 0, none⟩) h2).trans h4, (hb.frozen (p := ⟨w.heap.size + 1, 0, none⟩) h2).trans h5, ownT_below h6 hb⟩
theorem LexIn.set {w wr : World} {s : ByteArray} {A : Option Addr} {ts : List Tok} {c a : Nat} (h : LexIn w s A ts c a wr) (a' : Nat) : LexIn w s A ts c a' (wr.setCell ⟨w.heap.size + 1, 0, none⟩ (.int .i64 (a' : Int))) := by
  obtain ⟨h1, h2, h3, h4, h5, h6⟩ := h
  refine ⟨h1.setCell (by show w.heap.size ≤ w.heap.size + 1; omega) _, by simp; omega, ?_, World.cell?_setCell_same _ _ _ h4, ?_, ?_⟩
  · rw [World.cell?_setCell_other _ _ _ _ (by simp)]; exact h3
  · have : (wr.setCell ⟨w.heap.size + 1, 0, none⟩ (.int .i64 (a' : Int))).frozen? ⟨w.heap.size + 1, 0, none⟩ = wr.frozen? ⟨w.heap.size + 1, 0, none⟩ := by simp [go_sem]
    rw [this]; exact h5
  · exact ownsRow_setCell_below h6 (by show w.heap.size + 1 < w.heap.size + 2; omega) _
theorem LexIn.snoc {w wr w2 : World} {s : ByteArray} {A : Option Addr} {ts : List Tok} {c a g cap : Nat} {t : Tok} {o : Obj} (h : LexIn w s A ts c a wr)
    (hown : w2.ownsRow (w.heap.size + 2) 49 3 (.slice (some ⟨g, 0, none⟩) (ts.length + 1) cap) (ts.length + 1) (xsT ts ++ tokV t)) (hg : (wr.drew.alloc o).grownBy w2 (Value.slice A ts.length c).ownBlock) :
    LexIn w s (some ⟨g, 0, none⟩) (ts ++ [t]) cap a w2 := by
  obtain ⟨h1, h2, h3, h4, h5, h6⟩ := h
  have hv : ∀ q, (Value.slice A ts.length c).ownBlock = some q → w.heap.size + 2 ≤ q := fun q hq => (World.ownsRow.lt h6 q hq).1
  have ha : (wr.drew.alloc o).heap.size = wr.heap.size + 1 := by simp
  have hb : Below wr.heap.size wr (wr.drew.alloc o) := ((Below.refl _ _).drew).alloc (Nat.le_refl _) o
  have hsz := hg.size
  refine ⟨(below_next h1 h1.size hb).grown hg (by have := h1.size; omega) (fun q hq => by have := hv q hq; omega), by omega, ?_, ?_, ?_, ?_⟩
  · exact (hg.cell_far ⟨w.heap.size, 0, none⟩ (by show w.heap.size < _; omega) (fun e => absurd (hv _ e.symm) (by show ¬ (w.heap.size + 2 ≤ w.heap.size); omega))).trans ((hb.cell (p := ⟨w.heap.size, 0, none⟩) (by show w.heap.size < _; omega)).trans h3)
  · exact (hg.cell_far ⟨w.heap.size + 1, 0, none⟩ (by show w.heap.size + 1 < _; omega) (fun e => absurd (hv _ e.symm) (by show ¬ (w.heap.size + 2 ≤ w.heap.size + 1); omega))).trans ((hb.cell (p := ⟨w.heap.size + 1, 0, none⟩) (by show w.heap.size + 1 < _; omega)).trans h4)
  · exact (hg.frozen_far ⟨w.heap.size + 1, 0, none⟩ (by show w.heap.size + 1 < _; omega) (fun e => absurd (hv _ e.symm) (by show ¬ (w.heap.size + 2 ≤ w.heap.size + 1); omega))).trans ((hb.frozen (p := ⟨w.heap.size + 1, 0, none⟩) (by show w.heap.size + 1 < _; omega)).trans h5)
  · unfold OT
    rw [xsT_snoc, List.length_append]
    exact hown
/-- What Lex answers: the tokens, the error, its place. -/
def lexR (L : List UInt8) : List Tok × Int × Int :=
  if 8192 < L.length then ([], 3, 8192)
  else match (lexL L 0).2 with
    | none => ((lexL L 0).1 ++ [⟨0, [], L.length⟩], 0, 0)
    | some x => ([], x.1, x.2)
def LexPost (r : List Tok × Int × Int) (w : World) (e : Ending) (w' : World) : Prop :=
  ∃ A c, e = .returned (.tuple #[.slice A r.1.length c, .int .i64 r.2.1, .int .i64 r.2.2]) ∧ TR w' A r.1 ∧ Below w.heap.size w w'
def atOf (b : Nat) (wr : World) : Nat := match wr.cell? ⟨b, 0, none⟩ with | some (.int _ z) => z.toNat | _ => 0
theorem LexIn.atOf {w wr : World} {s : ByteArray} {A : Option Addr} {ts : List Tok} {c a : Nat} (h : LexIn w s A ts c a wr) : atOf (w.heap.size + 1) wr = a := by
  unfold C.atOf
  rw [h.2.2.2.1]
  simp
end Go.Proofs.Ytnnhdkchdjddkaa.C
