/- shape.Reach: walk. -/
import Derived.Test.YtacdeollnhkckaaShW
import Derived.BigQuiet
import Derived.Deep.QuietTactic
import Derived.Deep.OwnRows
import Derived.Laws.MakeOwn
namespace Go.Proofs.Ytacdeollnhkckaa.C
open Go.Shelf Go.RowKit Go.Lib Go.Sort
set_option linter.unusedSimpArgs false
set_option linter.unusedVariables false
/-- The whole row of what is reached. -/
noncomputable def rcL (n : Nat) (E : Nat → Nat → Prop) (Q : Nat → Prop) (r : Int) : List Bool := (List.range n).map (fun i => Sh.dc (0 ≤ r ∧ r < n ∧ Sh.RW E Q r.toNat i))
theorem rcL_len {n : Nat} {E : Nat → Nat → Prop} {Q : Nat → Prop} {r : Int} : (rcL n E Q r).length = n := by unfold rcL; simp
theorem rcL_at {n : Nat} {E : Nat → Nat → Prop} {Q : Nat → Prop} {r : Int} {i : Nat} (hi : i < n) : (rcL n E Q r)[i]? = some (Sh.dc (0 ≤ r ∧ r < n ∧ Sh.RW E Q r.toNat i)) := by
  unfold rcL
  rw [List.getElem?_map, List.getElem?_range hi]
  rfl
theorem rcL_of {n r : Nat} {E : Nat → Nat → Prop} {Q : Nat → Prop} {l : List Bool} (hl : l.length = n) (hr : r < n) (h : ∀ i, i < n → (l[i]? = some true ↔ Sh.RW E Q r i)) : l = rcL n E Q (r : Int) := by
  apply List.ext_getElem?
  intro i
  rcases Nat.lt_or_ge i n with hi | hi
  · rw [rcL_at hi]
    have h1 := h i hi
    have h2 : l[i]? = some l[i] := List.getElem?_eq_getElem (by omega)
    rw [h2] at h1 ⊢
    congr 1
    have h3 : (0 ≤ (r : Int) ∧ (r : Int) < n ∧ Sh.RW E Q (r : Int).toNat i) ↔ Sh.RW E Q r i := by rw [Int.toNat_natCast]; exact ⟨fun g => g.2.2, fun g => ⟨by omega, by omega, g⟩⟩
    rw [Sh.dc_eq h3]
    cases hb : l[i] with
    | true => rw [hb] at h1; exact (Sh.dc_iff.2 (h1.1 rfl)).symm
    | false => rw [hb] at h1; exact (Sh.dc_no.2 (fun g => by have := h1.2 g; cases this)).symm
  · rw [List.getElem?_eq_none (by omega), List.getElem?_eq_none (by rw [rcL_len]; omega)]
theorem rcL_no {n : Nat} {r : Int} {E : Nat → Nat → Prop} {Q : Nat → Prop} (h : ¬ (0 ≤ r ∧ r < n)) : rcL n E Q r = List.replicate n false := by
  apply List.ext_getElem?
  intro i
  rcases Nat.lt_or_ge i n with hi | hi
  · rw [rcL_at hi, List.getElem?_replicate, if_pos hi, Sh.dc_no.2 (fun g => h ⟨g.1, g.2.1⟩)]
  · rw [List.getElem?_eq_none (by rw [rcL_len]; omega), List.getElem?_eq_none (by simp; omega)]
theorem BL'.at_ {w : World} {B g n c : Nat} {l : List Bool} (h : BL' w B (.slice (some ⟨g, 0, none⟩) n c) l) {i : Nat} {x : Bool} (hi : l[i]? = some x) : w.cell? ⟨g, i, none⟩ = some (.bool x) := by
  have hl := (List.getElem?_eq_some_iff.1 hi).1
  have e : n = l.length := by
    rcases h.2 with ⟨q, _⟩ | ⟨g, cap, cur, e, hb, hh, _⟩
    · cases q
    · cases e; rfl
  subst e
  rw [World.ownsRow.cellAt h i (by omega), List.getElem?_map, hi]
  rfl
theorem BL'.fz {w : World} {B g n c : Nat} {l : List Bool} (h : BL' w B (.slice (some ⟨g, 0, none⟩) n c) l) (i : Nat) : w.frozen? ⟨g, i, none⟩ = false := by
  rcases h.2 with ⟨q, _⟩ | ⟨g', cap, cur, e, hb, hh, _⟩
  · cases q
  · cases e; exact frozen_of_row w g i cur _ hh
theorem IL.fz {w : World} {B g n c : Nat} {l : List Int} (h : IL w B (.slice (some ⟨g, 0, none⟩) n c) l) (i : Nat) : w.frozen? ⟨g, i, none⟩ = false := by
  rcases h.2 with ⟨q, _⟩ | ⟨g', cap, cur, e, hb, hh, _⟩
  · cases q
  · cases e; exact frozen_of_row w g i cur _ hh
theorem BL'.set {w : World} {B g n c : Nat} {l : List Bool} (h : BL' w B (.slice (some ⟨g, 0, none⟩) n c) l) (i : Nat) (x : Bool) : BL' (w.setCell ⟨g, i, none⟩ (.bool x)) B (.slice (some ⟨g, 0, none⟩) n c) (l.set i x) := by
  have e : n = l.length := by
    rcases h.2 with ⟨q, _⟩ | ⟨g, cap, cur, e, hb, hh, _⟩
    · cases q
    · cases e; rfl
  subst e
  have := (World.ownsRow.stored h i (.bool x)).1
  unfold BL'
  rw [List.map_set, List.length_set]
  exact this
theorem IL.set {w : World} {B g n c : Nat} {l : List Int} (h : IL w B (.slice (some ⟨g, 0, none⟩) n c) l) (i : Nat) (x : Int) : IL (w.setCell ⟨g, i, none⟩ (.int .i64 x)) B (.slice (some ⟨g, 0, none⟩) n c) (l.set i x) := by
  have e : n = l.length := by
    rcases h.2 with ⟨q, _⟩ | ⟨g, cap, cur, e, hb, hh, _⟩
    · cases q
    · cases e; rfl
  subst e
  have := (World.ownsRow.stored h i (.int .i64 x)).1
  unfold IL
  rw [List.map_set, List.length_set]
  exact this
/-- Rows of two kinds lie apart. -/
theorem own_kind {w : World} {B B' s s' n n' : Nat} {e e' : TypeId} {v v' : Value} {xs xs' : List Value} (h : w.ownsRow B e s v n xs) (h' : w.ownsRow B' e' s' v' n' xs') (hne : e ≠ e') : ∀ g, v.ownBlock = some g → v'.ownBlock ≠ some g := by
  intro g hg hg'
  rcases h.2 with ⟨rfl, _⟩ | ⟨g1, c1, r1, rfl, _, h1, _⟩
  · cases hg
  · rcases h'.2 with ⟨rfl, _⟩ | ⟨g2, c2, r2, rfl, _, h2, _⟩
    · cases hg'
    · cases hg
      cases hg'
      rw [h1] at h2
      injection h2 with h2
      injection h2 with _ h3
      exact hne h3
theorem IL.far {w : World} {B : Nat} {v : Value} {l : List Int} (h : IL w B v l) {p : Addr} (hp : v.ownBlock ≠ some p.block) (u : Value) : IL (w.setCell p u) B v l := ownsRow_setCell_other h hp u
theorem BL'.far {w : World} {B : Nat} {v : Value} {l : List Bool} (h : BL' w B v l) {p : Addr} (hp : v.ownBlock ≠ some p.block) (u : Value) : BL' (w.setCell p u) B v l := ownsRow_setCell_other h hp u
theorem infoI : (Try.prog.info? 3).map (fun i => (i.zero, i.size, i.bytes)) = some (some (.int .i64 0), 1, 8) := by kernel_rfl
theorem infoB : (Try.prog.info? 4).map (fun i => (i.zero, i.size, i.bytes)) = some (some (.bool false), 1, 1) := by kernel_rfl
theorem IL.pop {w : World} {B c k : Nat} {A : Option Addr} {l : List Int} {x : Int} (h : IL w B (.slice A (k + 1) c) (l ++ [x])) (hl : l.length = k) : IL w B (.slice A k c) l := by
  unfold IL at h ⊢
  rcases h.2 with ⟨q, _⟩ | ⟨g, cap, cur, e, _⟩
  · injection q with q1 q2 q3; omega
  · injection e with e1 e2 e3
    subst e1
    subst e3
    subst hl
    rw [List.length_append, List.map_append] at h
    exact ownsRow_pop (by simp) h
theorem IL.grown {w w' : World} {B : Nat} {v : Value} {l : List Int} {row : Option Nat} (h : IL w B v l) (hg : w.grownBy w' row) (hne : ∀ g, v.ownBlock = some g → row ≠ some g) : IL w' B v l :=
  World.ownsRow.kept h hg (by
    rcases hv : v.ownBlock with _ | g
    · exact .inl rfl
    · exact .inr (fun e => hne g hv e.symm))
theorem BL'.grown {w w' : World} {B : Nat} {v : Value} {l : List Bool} {row : Option Nat} (h : BL' w B v l) (hg : w.grownBy w' row) (hne : ∀ g, v.ownBlock = some g → row ≠ some g) : BL' w' B v l :=
  World.ownsRow.kept h hg (by
    rcases hv : v.ownBlock with _ | g
    · exact .inl rfl
    · exact .inr (fun e => hne g hv e.symm))
theorem tI_ne_tB : (3 : TypeId) ≠ 4 := by decide
theorem BL'.ne {w : World} {B B' : Nat} {v v' : Value} {l : List Bool} {l' : List Int} (h : BL' w B v l) (h' : IL w B' v' l') : ∀ g, v.ownBlock = some g → v'.ownBlock ≠ some g := own_kind h h' (Ne.symm tI_ne_tB)
theorem IL.ne {w : World} {B B' : Nat} {v v' : Value} {l : List Int} {l' : List Bool} (h : IL w B v l) (h' : BL' w B' v' l') : ∀ g, v.ownBlock = some g → v'.ownBlock ≠ some g := own_kind h h' tI_ne_tB
/-- Numbers as a row holds them. -/
def nI (t : List Nat) : List Int := t.map (fun (x : Nat) => (x : Int))
theorem nI_len (t : List Nat) : (nI t).length = t.length := List.length_map _
theorem nI_app (t : List Nat) (y : Nat) : nI (t ++ [y]) = nI t ++ [(y : Int)] := by unfold nI; simp
theorem nI_at {t : List Nat} {i x : Nat} (h : t[i]? = some x) : (nI t)[i]? = some (x : Int) := by unfold nI; rw [List.getElem?_map, h]; rfl
/-- How many are not reached. -/
noncomputable def unm (W : World) (b n : Nat) : Nat := (List.range n).countP (fun i => Sh.dc (W.cell? ⟨b, i, none⟩ = some (.bool false)))
def lenV : Value → Nat
  | .slice _ k _ => k
  | _ => 0
theorem unm_is {W : World} {B b n c : Nat} {l : List Bool} (h : BL' W B (.slice (some ⟨b, 0, none⟩) n c) l) (hl : l.length = n) : unm W b n = Sh.left l := by
  unfold unm Sh.left
  have e : l = (List.range n).map (fun i => l.getD i true) := by
    apply List.ext_getElem?
    intro i
    rcases Nat.lt_or_ge i n with hi | hi
    · rw [List.getElem?_map, List.getElem?_range hi, List.getElem?_eq_getElem (by omega)]
      simp [List.getD_eq_getElem?_getD, List.getElem?_eq_getElem (show i < l.length by omega)]
    · rw [List.getElem?_eq_none (by omega), List.getElem?_eq_none (by simp; omega)]
  rw [e, List.countP_map]
  refine List.countP_congr (fun i hi => ?_)
  have hi' := List.mem_range.1 hi
  have h1 := h.at_ (i := i) (List.getElem?_eq_getElem (by omega))
  rw [h1]
  simp only [Function.comp]
  rw [List.getD_eq_getElem?_getD, List.getElem?_eq_getElem (by omega)]
  rw [Sh.dc_iff]
  cases l[i] <;> simp
structure RSt (w wr : World) (b n : Nat) (lo : List Bool) (A : Option Addr) (k c : Nat) (t : List Nat) : Prop where
  hb : Below w.heap.size w wr
  ob : BL' wr w.heap.size (.slice (some ⟨b, 0, none⟩) n n) lo
  ot : IL wr w.heap.size (.slice A k c) (nI t)
  hk : t.length = k
  ln : lo.length = n
  lt : ∀ x ∈ t, x < n
theorem RSt.below {w wr w' : World} {b n : Nat} {lo : List Bool} {A : Option Addr} {k c : Nat} {t : List Nat} (h : RSt w wr b n lo A k c t) (hb : Below wr.heap.size wr w') : RSt w w' b n lo A k c t :=
  ⟨below_next h.hb h.hb.size hb, h.ob.below hb, h.ot.below hb, h.hk, h.ln, h.lt⟩
theorem RSt.mark {w wr : World} {b n : Nat} {lo : List Bool} {A : Option Addr} {k c : Nat} {t : List Nat} (h : RSt w wr b n lo A k c t) (y : Nat) : RSt w (wr.setCell ⟨b, y, none⟩ (.bool true)) b n (lo.set y true) A k c t := by
  have hge := (h.ob.lt b rfl).1
  exact ⟨h.hb.setCell hge _, h.ob.set y true, h.ot.far (p := ⟨b, y, none⟩) (h.ob.ne h.ot b rfl) _, h.hk, by rw [List.length_set]; exact h.ln, h.lt⟩
theorem RSt.snoc {w wr w2 : World} {b n : Nat} {lo : List Bool} {A : Option Addr} {k c : Nat} {t : List Nat} {O : Obj} {V : Value} {y : Nat} (h : RSt w wr b n lo A k c t) (hy : y < n) (hown : w2.ownsRow w.heap.size 3 1 V (k + 1) ((nI t).map (Value.int .i64) ++ [.int .i64 (y : Int)])) (hg : (wr.alloc O).grownBy w2 (Value.slice A k c).ownBlock) :
    ∃ A2 c2, V = .slice A2 (k + 1) c2 ∧ RSt w w2 b n lo A2 (k + 1) c2 (t ++ [y]) := by
  have ha : Below wr.heap.size wr (wr.alloc O) := (Below.refl _ _).alloc (Nat.le_refl _) _
  have h2 := h.below ha
  have e : (nI t).map (Value.int .i64) ++ [.int .i64 (y : Int)] = (nI (t ++ [y])).map (Value.int .i64) := by rw [nI_app]; simp
  rw [e] at hown
  have hl : (nI (t ++ [y])).length = k + 1 := by rw [nI_len, List.length_append, h.hk]; rfl
  rcases hown.2 with ⟨_, q⟩ | ⟨g, cap, cur, rfl, _⟩
  · omega
  · refine ⟨_, _, rfl, h2.hb.grown hg h2.hb.size (fun g hgg => (h2.ot.lt _ hgg).1), h2.ob.grown hg (fun g hg1 => h2.ob.ne h2.ot g hg1), by unfold IL; rw [hl]; exact hown, by rw [List.length_append, h.hk]; rfl, h.ln, fun x hx => ?_⟩
    rcases List.mem_append.1 hx with z | z
    · exact h.lt x z
    · rw [List.mem_singleton] at z; omega
theorem RSt.unm {w wr : World} {b n : Nat} {lo : List Bool} {A : Option Addr} {k c : Nat} {t : List Nat} (h : RSt w wr b n lo A k c t) : C.unm wr b n = Sh.left lo := unm_is h.ob h.ln
theorem RSt.pop {w wr : World} {b n : Nat} {lo : List Bool} {A : Option Addr} {k c : Nat} {t : List Nat} {x : Nat} (h : RSt w wr b n lo A (k + 1) c (t ++ [x])) : RSt w wr b n lo A k c t := by
  have hl : t.length = k := by have := h.hk; simpa using this
  refine ⟨h.hb, h.ob, ?_, hl, h.ln, fun y hy => h.lt y (by simp [hy])⟩
  have := h.ot
  rw [nI_app] at this
  exact this.pop (by rw [nI_len]; exact hl)
def ReachPost (l : List Bool) (w : World) (e : Ending) (w' : World) : Prop := ∃ g c, e = .returned (.slice (some ⟨g, 0, none⟩) l.length c) ∧ BL' w' w.heap.size (.slice (some ⟨g, 0, none⟩) l.length c) l ∧ Below w.heap.size w w'
theorem made_bools (w : World) (n : Nat) (hn : n ≤ 1000000) : BL' (w.alloc (.cells (madeCells #[.bool false] n) 4)) w.heap.size (.slice (some ⟨w.heap.size, 0, none⟩) n n) (List.replicate n false) := by
  have := World.ownsRow_lit (base := w.heap.size) (e := 4) (size := 1) w (madeCells #[.bool false] n) n (Nat.le_refl _) (by unfold maxLen; omega) (by rw [size_madeCells]; omega)
  rw [toList_madeCells_one] at this
  unfold BL'
  rw [List.length_replicate, List.map_replicate]
  exact this
theorem IL.cap {w : World} {B k c : Nat} {A : Option Addr} {l : List Int} (h : IL w B (.slice A k c) l) : k ≤ c ∧ c ≤ 9223372036854775807 ∧ l.length = k := by
  rcases h.2 with ⟨q, q2⟩ | ⟨g, cap, cur, e, _, _, h1, h2, _⟩
  · injection q with q1 q2' q3; omega
  · injection e with e1 e2 e3
    unfold maxLen at h2
    omega
theorem snoc_ex {α : Type} {t : List α} (h : 0 < t.length) : ∃ t' a, t = t' ++ [a] := by
  rcases ht : t.reverse with _ | ⟨a, s⟩
  · have : t = [] := List.reverse_eq_nil_iff.1 ht
    subst this; simp at h
  · exact ⟨s.reverse, a, by rw [← List.reverse_reverse t, ht, List.reverse_cons]⟩
theorem tok_bd (W : World) (cs : Array Value) (t : TypeId) : ∀ j u, cs.toList[j]? = some u → (W.alloc (.cells cs t)).cell? ((⟨W.heap.size, 0, none⟩ : Addr).add j) = some u := by
  intro j u hu
  rw [add_plain, Nat.zero_add, cell_of_row _ _ _ _ _ _ (heap_alloc_new W _)]
  simpa using hu
end Go.Proofs.Ytacdeollnhkckaa.C
