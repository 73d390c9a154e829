/- Rows of nodes of conditions in memory. -/
import Derived.Test.YtnnhdkchdjddkaaCondP
namespace Go.Proofs.Ytnnhdkchdjddkaa.C
open Go.RowKit
set_option linter.unusedSimpArgs false
set_option linter.unusedVariables false
theorem infoCd : (Try.prog.info? 62).map (fun i => (i.zero, i.size, i.bytes)) = some (some (.agg #[.int .i64 0, .int .i64 0, .slice none 0 0, .slice none 0 0, .int .i64 0, .int .i64 0, .int .i64 0]), 7, 88) := by kernel_rfl
/-- A condition's node, and where its two rows of nodes lie. -/
structure Cv where
  c : Cd
  ax : Option Addr
  cx : Nat
  ay : Option Addr
  cy : Nat
def cdV (v : Cv) : List Value := [.int .i64 v.c.k, .int .i64 v.c.rel, .slice v.ax v.c.x.length v.cx, .slice v.ay v.c.y.length v.cy, .int .i64 v.c.a, .int .i64 v.c.b, .int .i64 v.c.at_]
def xsC (l : List Cv) : List Value := l.flatMap cdV
theorem xsC_snoc (l : List Cv) (x : Cv) : xsC (l ++ [x]) = xsC l ++ cdV x := by simp [xsC]
/-- The blocks of the rows of a condition's nodes. -/
def NB (l : List Cv) (k : Nat) : Prop := ∃ v ∈ l, Blk v.ax v.c.x.length v.cx k ∨ Blk v.ay v.c.y.length v.cy k
/-- A row of conditions' nodes of the call's own. -/
structure OC (w : World) (B : Nat) (A : Option Addr) (l : List Cv) (c : Nat) : Prop where
  own : w.ownsRow B 62 7 (.slice A l.length c) l.length (xsC l)
  ex : ∀ v ∈ l, OE w B v.ax v.c.x v.cx ∧ OE w B v.ay v.c.y v.cy
  ap : ∀ k, NB l k → ¬ Blk A l.length c k
theorem OC.nil (w : World) (B : Nat) : OC w B none [] 0 := ⟨World.ownsRow_nil _ _ _ _, fun v h => by simp at h, fun k h => by obtain ⟨v, hv, _⟩ := h; simp at hv⟩
theorem OC.ge {w : World} {B : Nat} {A : Option Addr} {l : List Cv} {c k : Nat} (h : OC w B A l c) (hk : Blk A l.length c k) : B ≤ k ∧ k < w.heap.size := World.ownsRow.lt h.own k hk
theorem OC.geN {w : World} {B : Nat} {A : Option Addr} {l : List Cv} {c k : Nat} (h : OC w B A l c) (hk : NB l k) : B ≤ k ∧ k < w.heap.size := by
  obtain ⟨v, hv, hk | hk⟩ := hk
  · exact (h.ex v hv).1.ge hk
  · exact (h.ex v hv).2.ge hk
theorem ownsRow_fr {S : Nat → Prop} {w w' : World} {base t m : Nat} {A : Option Addr} {n c : Nat} {xs : List Value} (h : w.ownsRow base t m (.slice A n c) n xs) (hf : Fr S w w') (hS : ∀ k, Blk A n c k → ¬ S k) : w'.ownsRow base t m (.slice A n c) n xs := by
  obtain ⟨h1, h2⟩ := h
  refine ⟨h1, ?_⟩
  rcases h2 with h2 | ⟨g, cap, cur, e, hg, hh, r⟩
  · exact .inl h2
  · refine .inr ⟨g, cap, cur, e, hg, (hf.block g (Array.getElem?_eq_some_iff.1 hh).1 (hS g ?_)).trans hh, r⟩
    unfold Blk
    rw [e]
    rfl
theorem OC.fr {S : Nat → Prop} {w w' : World} {B : Nat} {A : Option Addr} {l : List Cv} {c : Nat} (h : OC w B A l c) (hf : Fr S w w') (hS : ∀ k, Blk A l.length c k → ¬ S k) (hN : ∀ k, NB l k → ¬ S k) : OC w' B A l c :=
  ⟨ownsRow_fr h.own hf hS, fun v hv => ⟨(h.ex v hv).1.fr hf (fun k hk => hN k ⟨v, hv, .inl hk⟩), (h.ex v hv).2.fr hf (fun k hk => hN k ⟨v, hv, .inr hk⟩)⟩, h.ap⟩
theorem OC.below {w w' : World} {B : Nat} {A : Option Addr} {l : List Cv} {c : Nat} (h : OC w B A l c) (hb : Below w.heap.size w w') : OC w' B A l c :=
  h.fr (S := fun _ => False) (Fr.of hb) (fun _ _ x => x) (fun _ _ x => x)
theorem OC.snoc {w w1 w2 : World} {B : Nat} {A : Option Addr} {l : List Cv} {c : Nat} {x : Cv} {v : Value} {o : Obj} (hs : OC w B A l c) (hb : Below w.heap.size w w1) (hBw : B ≤ w.heap.size)
    (hx : OE w B x.ax x.c.x x.cx) (hy : OE w B x.ay x.c.y x.cy) (hxa : ∀ k, Blk x.ax x.c.x.length x.cx k ∨ Blk x.ay x.c.y.length x.cy k → ¬ Blk A l.length c k)
    (hown : w2.ownsRow B 62 7 v (l.length + 1) (xsC l ++ cdV x)) (hg : (w1.alloc o).grownBy w2 (Value.slice A l.length c).ownBlock) (hat : v.ownBlock = (Value.slice A l.length c).ownBlock ∨ v.ownBlock = some (w1.alloc o).heap.size) :
    ∃ A2 c2, v = .slice A2 (l ++ [x]).length c2 ∧ OC w2 B A2 (l ++ [x]) c2 ∧ Fr (Blk A l.length c) w w2 ∧ (∀ k, Blk A2 (l ++ [x]).length c2 k → Blk A l.length c k ∨ w.heap.size ≤ k) := by
  have ha : Below w.heap.size w (w1.alloc o) := hb.alloc hb.size o
  have hf : Fr (Blk A l.length c) w w2 := ⟨hg.os.trans ha.os, hg.tape.trans ha.tape, hg.output.trans ha.output, Nat.le_trans ha.size hg.size, fun k hk hn => (hg.block k (by have := ha.size; omega) (fun e => hn e.symm)).trans (ha.block k hk)⟩
  rw [← xsC_snoc] at hown
  have hnb : ∀ k, NB (l ++ [x]) k → k < w.heap.size ∧ ¬ Blk A l.length c k := by
    rintro k ⟨v, hv, hk⟩
    rw [List.mem_append, List.mem_singleton] at hv
    rcases hv with hv | rfl
    · exact ⟨(hs.geN ⟨v, hv, hk⟩).2, hs.ap k ⟨v, hv, hk⟩⟩
    · refine ⟨?_, hxa k hk⟩
      rcases hk with hk | hk
      · exact (hx.ge hk).2
      · exact (hy.ge hk).2
  rcases hown.2 with ⟨_, h⟩ | ⟨g, cap, cur, rfl, _⟩
  · omega
  · have hbk : ∀ k, Blk (some ⟨g, 0, none⟩) (l ++ [x]).length cap k → Blk A l.length c k ∨ w.heap.size ≤ k := fun k hk => by
      have hk2 : (Value.slice (some ⟨g, 0, none⟩) (l.length + 1) cap).ownBlock = some k := by
        unfold Blk at hk
        rw [List.length_append] at hk
        exact hk
      rcases hat with hat | hat
      · exact .inl (hat.symm.trans hk2)
      · have := hat.symm.trans hk2
        injection this with this
        have := ha.size
        exact .inr (by omega)
    refine ⟨some ⟨g, 0, none⟩, cap, by rw [List.length_append]; rfl, ⟨by rw [List.length_append]; exact hown, fun v hv => ?_, fun k hk hb2 => ?_⟩, hf, hbk⟩
    · rw [List.mem_append, List.mem_singleton] at hv
      have hno : ∀ k, Blk v.ax v.c.x.length v.cx k ∨ Blk v.ay v.c.y.length v.cy k → ¬ Blk A l.length c k := fun k hk => (hnb k ⟨v, by rw [List.mem_append, List.mem_singleton]; exact hv, hk⟩).2
      rcases hv with hv | rfl
      · exact ⟨(hs.ex v hv).1.fr hf (fun k hk => hno k (.inl hk)), (hs.ex v hv).2.fr hf (fun k hk => hno k (.inr hk))⟩
      · exact ⟨hx.fr hf (fun k hk => hno k (.inl hk)), hy.fr hf (fun k hk => hno k (.inr hk))⟩
    · obtain ⟨z1, z2⟩ := hnb k hk
      rcases hbk k hb2 with y | y
      · exact z2 y
      · omega
/-- A node behind a row of one's own. -/
theorem wpList_append_cd {ops : Array Oper} {rest : List Oper} {o : Oper} {a : Act} {Q : Exit → Act → World → Prop} (hgd : o.guard = none) (s x : Operand)
    (ho : o.op = .call { callee := .builtin .append, args := #[s, x], argTypes := #[25, 25] }) {w W0 : World} (X : Cv) {base : Nat} {A : Option Addr} {l : List Cv} {c : Nat}
    (hs : a.eval s = .slice A l.length c) (hw : w = W0.alloc (.cells #[.int .i64 X.c.k, .int .i64 X.c.rel, .slice X.ax X.c.x.length X.cx, .slice X.ay X.c.y.length X.cy, .int .i64 X.c.a, .int .i64 X.c.b, .int .i64 X.c.at_] 62)) (hoe : OC W0 base A l c) (hb : base ≤ W0.heap.size)
    (hX : OE W0 base X.ax X.c.x X.cx) (hY : OE W0 base X.ay X.c.y X.cy) (hXA : ∀ k, Blk X.ax X.c.x.length X.cx k ∨ Blk X.ay X.c.y.length X.cy k → ¬ Blk A l.length c k) {z : Nat} (hx : a.eval x = .slice (some ⟨z, 0, none⟩) 1 1) (hz : W0.heap.size = z) (hl : l.length ≤ 1000000)
    (h : ∀ (A2 : Option Addr) (c2 n2 : Nat) (w' : World), n2 = (l ++ [X]).length → OC w' base A2 (l ++ [X]) c2 → Fr (Blk A l.length c) W0 w' → (∀ k, Blk A2 (l ++ [X]).length c2 k → Blk A l.length c k ∨ W0.heap.size ≤ k) → wpList Try.prog ops Q rest (a.put o.dst (.slice A2 n2 c2)) w') :
    wpList Try.prog ops Q (o :: rest) a w := by
  obtain ⟨i0, hi, hzz⟩ := Option.map_eq_some_iff.1 infoCd
  simp only [Prod.mk.injEq] at hzz
  subst hw
  subst hz
  refine wpList_append_own_at _ hgd s x 25 ho base 62 i0 (.agg #[.int .i64 0, .int .i64 0, .slice none 0 0, .slice none 0 0, .int .i64 0, .int .i64 0, .int .i64 0]) 7 88 Try.underlying25 hi hzz.1 hzz.2.1 hzz.2.2 rfl (by omega) (.slice A l.length c) l.length _ hs (ownsRow_fr (S := fun _ => False) hoe.own (Fr.of ((Below.refl _ _).alloc (Nat.le_refl _) _)) (fun _ _ x => x)) ⟨W0.heap.size, 0, none⟩ 1 1 (cdV X) hx rfl (tok_bd W0 _ 62) (by intro u hu; simp only [cdV, List.mem_cons, List.not_mem_nil, or_false] at hu; rcases hu with rfl | rfl | rfl | rfl | rfl | rfl | rfl <;> rfl) (by unfold maxLen; omega) (by omega) (by simp; omega) ?_
  intro v' w2 hown hg2 hnil hat
  obtain ⟨A2, c2, rfl, ho2, hf, hk⟩ := hoe.snoc (x := X) (Below.refl _ _) hb hX hY hXA hown hg2 hat
  exact h A2 c2 _ w2 rfl ho2 hf hk
end Go.Proofs.Ytnnhdkchdjddkaa.C
