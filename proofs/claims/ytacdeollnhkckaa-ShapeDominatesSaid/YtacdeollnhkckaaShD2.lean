/- shape.Dominators: what lies there. -/
import Derived.Test.YtacdeollnhkckaaShD
namespace Go.Proofs.Ytacdeollnhkckaa.C
open Go.Shelf Go.RowKit Go.Lib Go.Sort
set_option linter.unusedSimpArgs false
set_option linter.unusedVariables false
/-- While the rows of what leads to a node are made. -/
structure PB (w W : World) (gO cO gR gB gI Dr Di n : Nat) (od : List Nat) (rl il : List Int) (F : Nat → Prop) (A : Nat → Option Addr) (c : Nat → Nat) (bl : Nat → List Nat) : Prop where
  hb : Below w.heap.size w W
  il : IL W w.heap.size (.slice (some ⟨gI, 0, none⟩) n n) il
  rk : IL W w.heap.size (.slice (some ⟨gR, 0, none⟩) n n) rl
  od : IL W w.heap.size (.slice (some ⟨gO, 0, none⟩) od.length cO) (nI od)
  d1 : W.cell? ⟨Dr, 0, none⟩ = some (.slice (some ⟨gR, 0, none⟩) n n)
  d2 : W.cell? ⟨Di, 0, none⟩ = some (.slice (some ⟨gI, 0, none⟩) n n)
  bk : BK w.heap.size 0 n F W gB A c bl
  fI : F gI
  fR : F gR
  fO : F gO
  fr : F Dr
  fi : F Di
  fl : ∀ g, F g → g < W.heap.size
  nB1 : gB ≠ Dr
  nB2 : gB ≠ Di
theorem PB.below {w W W' : World} {gO cO gR gB gI Dr Di n : Nat} {od : List Nat} {rl il : List Int} {F : Nat → Prop} {A : Nat → Option Addr} {c : Nat → Nat} {bl : Nat → List Nat} (h : PB w W gO cO gR gB gI Dr Di n od rl il F A c bl) (hb : Below W.heap.size W W') : PB w W' gO cO gR gB gI Dr Di n od rl il F A c bl :=
  ⟨below_next h.hb h.hb.size hb, h.il.below hb, h.rk.below hb, h.od.below hb, (hb.cell (p := ⟨Dr, 0, none⟩) (h.fl _ h.fr)).trans h.d1, (hb.cell (p := ⟨Di, 0, none⟩) (h.fl _ h.fi)).trans h.d2, h.bk.below hb, h.fI, h.fR, h.fO, h.fr, h.fi, fun g hg => Nat.lt_of_lt_of_le (h.fl g hg) hb.size, h.nB1, h.nB2⟩
theorem PB.put {w W W2 : World} {gO cO gR gB gI Dr Di n : Nat} {od : List Nat} {rl il : List Int} {F : Nat → Prop} {A : Nat → Option Addr} {c : Nat → Nat} {bl : Nat → List Nat} {x k : Nat} {O : Obj} {V : Value} (h : PB w W gO cO gR gB gI Dr Di n od rl il F A c bl) (hx : x < n)
    (hown : W2.ownsRow w.heap.size 3 1 V ((bl x).length + 1) ((nI (bl x)).map (Value.int .i64) ++ [.int .i64 (k : Int)])) (hg : (W.alloc O).grownBy W2 (Value.slice (A x) (bl x).length (c x)).ownBlock) (hat : V.ownBlock = (Value.slice (A x) (bl x).length (c x)).ownBlock ∨ V.ownBlock = some (W.alloc O).heap.size) :
    ∃ A2 c2, V = .slice A2 ((bl x).length + 1) c2 ∧ PB w (W2.setCell ⟨gB, x, none⟩ (.slice A2 ((bl x).length + 1) c2)) gO cO gR gB gI Dr Di n od rl il F (updO A x A2) (updO c x c2) (updO bl x (bl x ++ [k])) := by
  obtain ⟨A2, c2, rfl, hbk⟩ := h.bk.put hx h.fl hown hg hat
  have ha : Below W.heap.size W (W.alloc O) := (Below.refl _ _).alloc (Nat.le_refl _) _
  have h2 := h.below ha
  have hgeB := (h2.bk.hd.lt gB rfl).1
  have keepR : ∀ {v : Value} {l : List Int}, IL (W.alloc O) w.heap.size v l → (∀ g, v.ownBlock = some g → F g) → IL (W2.setCell ⟨gB, x, none⟩ (.slice A2 ((bl x).length + 1) c2)) w.heap.size v l := by
    intro v l hv hF
    have h3 := hv.grown hg (fun g hgv q => h2.bk.sp x hx g q (hF g hgv))
    refine h3.far (p := ⟨gB, x, none⟩) (fun q => ?_) _
    have h4 := hbk.hd
    exact own_kind h2.bk.hd hv tR_ne_tI gB rfl q
  have keepC : ∀ (D : Nat) (v : Value), F D → gB ≠ D → (W.alloc O).cell? ⟨D, 0, none⟩ = some v → (W2.setCell ⟨gB, x, none⟩ (.slice A2 ((bl x).length + 1) c2)).cell? ⟨D, 0, none⟩ = some v := by
    intro D v hF hne hc
    have hblk := hg.block D (h2.fl D hF) (fun q => h2.bk.sp x hx D q.symm hF)
    rw [World.cell?_of_block (show (W2.setCell ⟨gB, x, none⟩ (.slice A2 ((bl x).length + 1) c2)).heap[D]? = (W.alloc O).heap[D]? from (heap_setCell_other W2 ⟨gB, x, none⟩ D _ (fun e => hne (by simpa using e.symm))).trans hblk)]
    exact hc
  refine ⟨_, _, rfl, (h2.hb.grown hg h2.hb.size (fun g hgg => ((h2.bk.rw_ x hx).lt g hgg).1)).setCell hgeB _, keepR h2.il (fun g e => ?_), keepR h2.rk (fun g e => ?_), keepR h2.od (fun g e => ?_), keepC Dr _ h.fr h.nB1 h2.d1, keepC Di _ h.fi h.nB2 h2.d2, hbk, h.fI, h.fR, h.fO, h.fr, h.fi, fun g hgF => ?_, h.nB1, h.nB2⟩
  · have e' : some gI = some g := e
    injection e' with e'
    exact e' ▸ h.fI
  · have e' : some gR = some g := e
    injection e' with e'
    exact e' ▸ h.fR
  · have e' : some gO = some g := e
    injection e' with e'
    exact e' ▸ h.fO
  · have := h2.fl g hgF
    have := hg.size
    simp
    omega
theorem PB.more {w W : World} {gO cO gR gB gI Dr Di n : Nat} {od : List Nat} {rl il : List Int} {F F' : Nat → Prop} {A : Nat → Option Addr} {c : Nat → Nat} {bl : Nat → List Nat} (h : PB w W gO cO gR gB gI Dr Di n od rl il F A c bl) (h1 : ∀ g, F g → F' g) (h2 : ∀ g, F' g → g < W.heap.size) (h3 : ∀ x, x < n → ∀ g, (Value.slice (A x) (bl x).length (c x)).ownBlock = some g → ¬ F' g) : PB w W gO cO gR gB gI Dr Di n od rl il F' A c bl :=
  ⟨h.hb, h.il, h.rk, h.od, h.d1, h.d2, ⟨h.bk.hd, h.bk.rw_, h3, h.bk.ap⟩, h1 _ h.fI, h1 _ h.fR, h1 _ h.fO, h1 _ h.fr, h1 _ h.fi, h2, h.nB1, h.nB2⟩
theorem PB.less {w W : World} {gO cO gR gB gI Dr Di n : Nat} {od : List Nat} {rl il : List Int} {F F' : Nat → Prop} {A : Nat → Option Addr} {c : Nat → Nat} {bl : Nat → List Nat} (h : PB w W gO cO gR gB gI Dr Di n od rl il F' A c bl) (h1 : ∀ g, F g → F' g) (hI : F gI) (hR : F gR) (hO : F gO) (hr : F Dr) (hi : F Di) : PB w W gO cO gR gB gI Dr Di n od rl il F A c bl :=
  ⟨h.hb, h.il, h.rk, h.od, h.d1, h.d2, ⟨h.bk.hd, h.bk.rw_, fun x hx g hg q => h.bk.sp x hx g hg (h1 g q), h.bk.ap⟩, hI, hR, hO, hr, hi, fun g hg => h.fl g (h1 g hg), h.nB1, h.nB2⟩
/-- While the last ones are looked for: all but the row of last ones. -/
structure FX (w W : World) (gO gR gB gI Dr Di n : Nat) (od : List Nat) (rl : List Int) (A : Nat → Option Addr) (c : Nat → Nat) (bl : Nat → List Nat) : Prop where
  hb : Below w.heap.size w W
  ge : w.heap.size ≤ gI
  od : ∀ j x : Nat, od[j]? = some x → W.cell? ⟨gO, j, none⟩ = some (.int .i64 (x : Int))
  rk : IL W w.heap.size (.slice (some ⟨gR, 0, none⟩) n n) rl
  bh : ∀ x, x < n → W.cell? ⟨gB, x, none⟩ = some (.slice (A x) (bl x).length (c x))
  br : ∀ x, x < n → ∀ j k : Nat, (bl x)[j]? = some k → ∃ g, A x = some ⟨g, 0, none⟩ ∧ g ≠ gI ∧ W.cell? ⟨g, j, none⟩ = some (.int .i64 (k : Int))
  d1 : W.cell? ⟨Dr, 0, none⟩ = some (.slice (some ⟨gR, 0, none⟩) n n)
  d2 : W.cell? ⟨Di, 0, none⟩ = some (.slice (some ⟨gI, 0, none⟩) n n)
  nO : gO ≠ gI
  nR : gR ≠ gI
  nB : gB ≠ gI
  n1 : Dr ≠ gI
  n2 : Di ≠ gI
theorem FX.set {w W : World} {gO gR gB gI Dr Di n : Nat} {od : List Nat} {rl : List Int} {A : Nat → Option Addr} {c : Nat → Nat} {bl : Nat → List Nat} (h : FX w W gO gR gB gI Dr Di n od rl A c bl) (x : Nat) (v : Value) : FX w (W.setCell ⟨gI, x, none⟩ v) gO gR gB gI Dr Di n od rl A c bl := by
  have key : ∀ (g j : Nat), g ≠ gI → (W.setCell ⟨gI, x, none⟩ v).cell? ⟨g, j, none⟩ = W.cell? ⟨g, j, none⟩ := fun g j hne => World.cell?_of_block (heap_setCell_other W ⟨gI, x, none⟩ g v (fun e => hne (by simpa using e)))
  exact ⟨h.hb.setCell h.ge _, h.ge, fun j y hj => (key _ _ h.nO).trans (h.od j y hj), h.rk.far (p := ⟨gI, x, none⟩) (fun e => h.nR (Option.some.inj e)) _, fun y hy => (key _ _ h.nB).trans (h.bh y hy), fun y hy j k hj => by
    obtain ⟨g, h1, h2, h3⟩ := h.br y hy j k hj
    exact ⟨g, h1, h2, (key _ _ h2).trans h3⟩, (key _ _ h.n1).trans h.d1, (key _ _ h.n2).trans h.d2, h.nO, h.nR, h.nB, h.n1, h.n2⟩
theorem FX.drew {w W : World} {gO gR gB gI Dr Di n : Nat} {od : List Nat} {rl : List Int} {A : Nat → Option Addr} {c : Nat → Nat} {bl : Nat → List Nat} (h : FX w W gO gR gB gI Dr Di n od rl A c bl) (q : Nat) : FX w (W.drewN q) gO gR gB gI Dr Di n od rl A c bl :=
  ⟨below_drewN h.hb q, h.ge, h.od, h.rk.below (below_drewN (Below.refl _ _) q), h.bh, h.br, h.d1, h.d2, h.nO, h.nR, h.nB, h.n1, h.n2⟩
theorem PB.fx {w W : World} {gO cO gR gB gI Dr Di n : Nat} {od : List Nat} {rl il : List Int} {F : Nat → Prop} {A : Nat → Option Addr} {c : Nat → Nat} {bl : Nat → List Nat} (h : PB w W gO cO gR gB gI Dr Di n od rl il F A c bl) (nO : gO ≠ gI) (nR : gR ≠ gI) (n1 : Dr ≠ gI) (n2 : Di ≠ gI) : FX w W gO gR gB gI Dr Di n od rl A c bl :=
  ⟨h.hb, (h.il.lt gI rfl).1, fun j x hj => h.od.at_ (nI_at hj), h.rk, fun x hx => h.bk.cell hx, fun x hx j k hj => by
    obtain ⟨g, h1, _, _⟩ := (h.bk.rw_ x hx).some_ (by have := (List.getElem?_eq_some_iff.1 hj).1; omega)
    refine ⟨g, h1, fun e => h.bk.sp x hx g (by rw [h1]; rfl) (e ▸ h.fI), ?_⟩
    have h5 := h.bk.rw_ x hx
    rw [h1] at h5
    exact h5.at_ (nI_at hj), h.d1, h.d2, nO, nR, fun e => own_kind h.bk.hd h.il tR_ne_tI gB rfl (by rw [e]; rfl), n1, n2⟩
end Go.Proofs.Ytacdeollnhkckaa.C
