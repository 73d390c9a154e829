/- shape.Dominators: its memory. -/
import Derived.Test.YtacdeollnhkckaaShM
namespace Go.Proofs.Ytacdeollnhkckaa.C
open Go.Shelf Go.RowKit Go.Lib Go.Sort
set_option linter.unusedSimpArgs false
set_option linter.unusedVariables false
/-- A row of last ones, as the memory holds it. -/
def fL (il : List Int) (x : Nat) : Nat := (il.getD x (-1)).toNat
def prL (il : List Int) (x : Nat) : Prop := 0 ≤ il.getD x (-1)
theorem fL_set {il : List Int} {x b : Nat} (hx : x < il.length) : fL (il.set x (b : Int)) = Sh.upd (fL il) x b := by
  funext y
  unfold fL Sh.upd
  rw [List.getD_eq_getElem?_getD, List.getElem?_set]
  by_cases h : x = y
  · subst h; simp [hx]
  · rw [if_neg h, if_neg (fun e => h e.symm)]
    show _ = (il.getD y (-1)).toNat
    rw [List.getD_eq_getElem?_getD]
theorem prL_set {il : List Int} {x b : Nat} (hx : x < il.length) : prL (il.set x (b : Int)) = (fun y => prL il y ∨ y = x) := by
  funext y
  apply propext
  unfold prL
  rw [List.getD_eq_getElem?_getD, List.getElem?_set]
  by_cases h : x = y
  · subst h; simp [hx]
  · rw [if_neg h, List.getD_eq_getElem?_getD]
    exact ⟨.inl, fun q => q.resolve_right (fun e => h e.symm)⟩
theorem fL_same {il : List Int} {x b : Nat} (h : fL il x = b) : Sh.upd (fL il) x b = fL il := by
  funext y
  unfold Sh.upd
  by_cases q : y = x
  · rw [if_pos q, q, h]
  · rw [if_neg q]
theorem prL_same {il : List Int} {x : Nat} (h : prL il x) : (fun y => prL il y ∨ y = x) = prL il := by
  funext y
  exact propext ⟨fun q => q.elim id (fun e => e ▸ h), .inl⟩
theorem fL_at {il : List Int} {x : Nat} (h : prL il x) : il[x]? = some (fL il x : Int) := by
  unfold prL at h
  unfold fL
  rw [List.getD_eq_getElem?_getD] at h ⊢
  rcases hv : il[x]? with _ | v
  · rw [hv] at h; simp at h
  · rw [hv] at h
    simp only [Option.getD_some] at h ⊢
    rw [Int.toNat_of_nonneg h]
/-- The rows of what leads to a node. -/
structure BK (B wrB n : Nat) (F : Nat → Prop) (W : World) (gB : Nat) (A : Nat → Option Addr) (c : Nat → Nat) (bl : Nat → List Nat) : Prop where
  hd : W.ownsRow B 25 1 (.slice (some ⟨gB, 0, none⟩) n n) n ((List.range n).map (fun x => Value.slice (A x) (bl x).length (c x)))
  rw_ : ∀ x, x < n → IL W B (.slice (A x) (bl x).length (c x)) (nI (bl x))
  sp : ∀ x, x < n → ∀ g, (Value.slice (A x) (bl x).length (c x)).ownBlock = some g → ¬ F g
  ap : ∀ x y, x < n → y < n → x ≠ y → ∀ g, (Value.slice (A x) (bl x).length (c x)).ownBlock = some g → (Value.slice (A y) (bl y).length (c y)).ownBlock ≠ some g
theorem tR_ne_tI : (25 : TypeId) ≠ 3 := by decide
theorem BK.below {B wrB n : Nat} {F : Nat → Prop} {W W' : World} {gB : Nat} {A : Nat → Option Addr} {c : Nat → Nat} {bl : Nat → List Nat} (h : BK B wrB n F W gB A c bl) (hb : Below W.heap.size W W') : BK B wrB n F W' gB A c bl :=
  ⟨ownsRow_b h.hd hb, fun x hx => (h.rw_ x hx).below hb, h.sp, h.ap⟩
theorem BK.cell {B wrB n : Nat} {F : Nat → Prop} {W : World} {gB : Nat} {A : Nat → Option Addr} {c : Nat → Nat} {bl : Nat → List Nat} (h : BK B wrB n F W gB A c bl) {x : Nat} (hx : x < n) : W.cell? ⟨gB, x, none⟩ = some (.slice (A x) (bl x).length (c x)) := by
  rw [World.ownsRow.cellAt h.hd x (by omega), List.getElem?_map, List.getElem?_range hx]
  rfl
def updO {α : Type} (f : Nat → α) (n : Nat) (v : α) (x : Nat) : α := if x = n then v else f x
/-- One more in one of the rows. -/
theorem BK.put {B wrB n : Nat} {F : Nat → Prop} {W W2 : World} {gB : Nat} {A : Nat → Option Addr} {c : Nat → Nat} {bl : Nat → List Nat} {x k : Nat} {O : Obj} {V : Value} (h : BK B wrB n F W gB A c bl) (hx : x < n) (hF : ∀ g, F g → g < W.heap.size)
    (hown : W2.ownsRow B 3 1 V ((bl x).length + 1) ((nI (bl x)).map (Value.int .i64) ++ [.int .i64 (k : Int)])) (hg : (W.alloc O).grownBy W2 (Value.slice (A x) (bl x).length (c x)).ownBlock) (hat : V.ownBlock = (Value.slice (A x) (bl x).length (c x)).ownBlock ∨ V.ownBlock = some (W.alloc O).heap.size) :
    ∃ A2 c2, V = .slice A2 ((bl x).length + 1) c2 ∧ BK B wrB n F (W2.setCell ⟨gB, x, none⟩ (.slice A2 ((bl x).length + 1) c2)) gB (updO A x A2) (updO c x c2) (updO bl x (bl x ++ [k])) := by
  have ha : Below W.heap.size W (W.alloc O) := (Below.refl _ _).alloc (Nat.le_refl _) _
  have h2 := h.below ha
  have e : (nI (bl x)).map (Value.int .i64) ++ [.int .i64 (k : Int)] = (nI (bl x ++ [k])).map (Value.int .i64) := by rw [nI_app]; simp
  rw [e] at hown
  have hl : (bl x ++ [k]).length = (bl x).length + 1 := by simp
  rcases hown.2 with ⟨_, q⟩ | ⟨g, cap, cur, rfl, _⟩
  · omega
  · have hnew : ∀ j, j < (W.alloc O).heap.size → (Value.slice (some ⟨g, 0, none⟩) ((bl x).length + 1) cap).ownBlock = some j → (Value.slice (A x) (bl x).length (c x)).ownBlock = some j := by
      intro j hj hgk
      rcases hat with q | q
      · rw [← q]; exact hgk
      · rw [q] at hgk
        injection hgk with hgk
        omega
    have hrow : ∀ y, y < n → y ≠ x → IL W2 B (.slice (A y) (bl y).length (c y)) (nI (bl y)) := fun y hy hne => (h2.rw_ y hy).grown hg (fun j hj q => h2.ap x y hx hy (Ne.symm hne) j q hj)
    have hhd : W2.ownsRow B 25 1 (.slice (some ⟨gB, 0, none⟩) n n) n ((List.range n).map (fun x => Value.slice (A x) (bl x).length (c x))) := ownsRow_of_block h2.hd (fun j hj => by
      have hj' : some gB = some j := hj
      injection hj' with hj'
      subst hj'
      exact hg.block gB (h2.hd.lt gB rfl).2 (fun q => own_kind h2.hd (h2.rw_ x hx) tR_ne_tI gB rfl q.symm))
    have hne : ∀ (y : Nat) (v : Value) (l : List Int), IL W2 B v l → v.ownBlock ≠ some gB := fun y v l hil q => own_kind hhd hil tR_ne_tI gB rfl q
    have hnewIL : IL W2 B (.slice (some ⟨g, 0, none⟩) ((bl x).length + 1) cap) (nI (bl x ++ [k])) := by unfold IL; rw [nI_len, hl]; exact hown
    refine ⟨_, _, rfl, ?_, fun y hy => ?_, fun y hy j hj => ?_, fun y z hy hz hyz j hj => ?_⟩
    · have hs := (World.ownsRow.stored hhd x (.slice (some ⟨g, 0, none⟩) ((bl x).length + 1) cap)).1
      have e2 : ((List.range n).map (fun x => Value.slice (A x) (bl x).length (c x))).set x (.slice (some ⟨g, 0, none⟩) ((bl x).length + 1) cap) = (List.range n).map (fun y => Value.slice (updO A x (some ⟨g, 0, none⟩) y) (updO bl x (bl x ++ [k]) y).length (updO c x cap y)) := by
        apply List.ext_getElem?
        intro i
        rw [List.getElem?_set]
        rcases Nat.lt_or_ge i n with hi | hi
        · rw [List.getElem?_map, List.getElem?_map, List.getElem?_range hi]
          by_cases q : x = i
          · subst q; simp [updO, hi]
          · rw [if_neg q]; have q' : ¬ i = x := fun e => q e.symm
            simp [updO, q']
        · rw [List.getElem?_eq_none (by simp; omega), List.getElem?_eq_none (by simp; omega)]
          split
          · simp; omega
          · rfl
      rw [e2] at hs
      exact hs
    · unfold updO
      by_cases q : y = x
      · subst q
        rw [if_pos rfl, if_pos rfl, if_pos rfl, hl]
        exact hnewIL.far (p := ⟨gB, y, none⟩) (hne y _ _ hnewIL) _
      · rw [if_neg q, if_neg q, if_neg q]
        exact (hrow y hy q).far (p := ⟨gB, x, none⟩) (hne y _ _ (hrow y hy q)) _
    · unfold updO at hj
      by_cases q : y = x
      · subst q
        rw [if_pos rfl, if_pos rfl, if_pos rfl, hl] at hj
        intro hFj
        have hlt := hF j hFj
        exact h.sp y hy j (hnew j (Nat.lt_of_lt_of_le hlt ha.size) hj) hFj
      · rw [if_neg q, if_neg q, if_neg q] at hj
        exact h.sp y hy j hj
    · unfold updO at hj ⊢
      by_cases q : y = x
      · subst q
        rw [if_pos rfl, if_pos rfl, if_pos rfl, hl] at hj
        rw [if_neg (Ne.symm hyz), if_neg (Ne.symm hyz), if_neg (Ne.symm hyz)]
        intro hz2
        have hlt := ((h2.rw_ z hz).lt j hz2).2
        exact h2.ap y z hy hz hyz j (hnew j hlt hj) hz2
      · rw [if_neg q, if_neg q, if_neg q] at hj
        by_cases q2 : z = x
        · subst q2
          rw [if_pos rfl, if_pos rfl, if_pos rfl, hl]
          intro hz2
          have hlt := ((h2.rw_ y hy).lt j hj).2
          exact h2.ap z y hz hy (Ne.symm hyz) j (hnew j hlt hz2) hj
        · rw [if_neg q2, if_neg q2, if_neg q2]
          exact h2.ap y z hy hz hyz j hj
end Go.Proofs.Ytacdeollnhkckaa.C
