/- Blocks of a memory in any state, for watch.Changed; a memory and a row of ids beside it. -/
import Derived.Test.YtkgdogdallojlaaWatch2
namespace Go.Proofs.Ytkgdogdallojlaa.C
open Go.RowKit
set_option linter.unusedSimpArgs false
set_option linter.unusedVariables false
/-- Two memories that have no block in common, and what may be one's: block x is p's, its slice's, a block's. -/
def footM (p : Nat) (L : Value) (n : Nat) (ad : Nat → Nat) (x : Nat) : Prop := x = p ∨ L.ownBlock = some x ∨ ∃ i, i < n ∧ ad i = x
theorem MS.footM_lt {w : World} {base p n : Nat} {L : Value} {ts : Nat → Int} {ad ln cp : Nat → Nat} {f : Nat → Nat → Int} (h : MS w base p L n ts ad ln cp f) (x : Nat) (hx : footM p L n ad x) : base ≤ x ∧ x < w.heap.size := by
  rcases hx with rfl | hx | ⟨i, hi, rfl⟩
  · exact h.hp
  · exact h.own.blk x hx
  · exact ⟨(h.hA i hi).1, (h.hA i hi).2.1⟩
/-- Only blocks beside the memory have turned. -/
theorem MS.apart {w w' : World} {base p n : Nat} {L : Value} {ts : Nat → Int} {ad ln cp : Nat → Nat} {f : Nat → Nat → Int} (hm : MS w base p L n ts ad ln cp f) (hs : w.heap.size ≤ w'.heap.size) (h : ∀ b, footM p L n ad b → w'.heap[b]? = w.heap[b]?) : MS w' base p L n ts ad ln cp f :=
  hm.keep hs (h p (.inl rfl)) (fun b e => h b (.inr (.inl e))) (fun i hi => h _ (.inr (.inr ⟨i, hi, rfl⟩)))
theorem MS.congr {w : World} {base p n : Nat} {L : Value} {ts ts' : Nat → Int} {ad ln ln' cp : Nat → Nat} {f f' : Nat → Nat → Int} (hm : MS w base p L n ts ad ln cp f) (h1 : ∀ i, i < n → ts i = ts' i) (h2 : ∀ i, i < n → ln i = ln' i) (h3 : ∀ i j, i < n → f i j = f' i j) : MS w base p L n ts' ad ln' cp f' :=
  ⟨hm.hp, hm.cell, hm.frz, by rw [← xsM_congr n (fun i hi => ⟨h1 i hi, rfl, h2 i hi, rfl⟩)]; exact hm.own, hm.hL, fun i hi => by rw [← h2 i hi]; exact hm.hA i hi, hm.inj, fun i j hi hj => by rw [← h3 i j hi]; exact hm.inner i j hi (by rw [h2 i hi]; exact hj), fun i j hi hj => hm.ifrz i j hi (by rw [h2 i hi]; exact hj)⟩
def bB (n : Nat) (id : Int) : Bool := decide (0 ≤ id ∧ id < n)
def tB (n : Nat) (ts : Nat → Int) (id : Int) : Int := if bB n id = true then ts id.toNat else 0
def lB (n : Nat) (ln : Nat → Nat) (id : Int) : Nat := if bB n id = true then ln id.toNat else 0
def fB (n : Nat) (f : Nat → Nat → Int) (id : Int) : Nat → Int := if bB n id = true then f id.toNat else fun _ => 0
theorem MS.blk {w : World} {base p n : Nat} {L : Value} {ts : Nat → Int} {ad ln cp : Nat → Nat} {f : Nat → Nat → Int} (hm : MS w base p L n ts ad ln cp f) (id : Int) (W : World) (hW : Below w.heap.size w W) :
    Calls Try.prog 19 #[.pointer (some ⟨p, 0, none⟩), .int .i64 id] W (BlkPost (tB n ts id) (lB n ln id) (fB n f id) (bB n id) W) := by
  have hm' := hm.below hW
  by_cases h : 0 ≤ id ∧ id < n
  · have hb : bB n id = true := decide_eq_true h
    obtain ⟨i, rfl⟩ := Int.eq_ofNat_of_zero_le h.1
    have hi : i < n := by omega
    have ht : tB n ts (i : Int) = ts i := by unfold tB; rw [if_pos hb]; simp
    have hl : lB n ln (i : Int) = ln i := by unfold lB; rw [if_pos hb]; simp
    have hf : fB n f (i : Int) = f i := by unfold fB; rw [if_pos hb]; simp
    rw [ht, hl, hf, hb]
    refine (block_s base p n L ts ad ln cp f i W hm' hi).mono ?_
    rintro e w' ⟨g, c, rfl, hr⟩
    exact ⟨_, c, rfl, ⟨by have := (hm'.hA i hi).2.2.2.2.2.1; omega, fun _ => ⟨_, rfl, fun j hj => by rw [m_plain]; exact hr.2.2.2.1 j hj⟩⟩, hr.2.2.2.2.2⟩
  · have hb : bB n id = false := decide_eq_false h
    have hnb : ¬ bB n id = true := by rw [hb]; simp
    have ht : tB n ts id = 0 := by unfold tB; rw [if_neg hnb]
    have hl : lB n ln id = 0 := by unfold lB; rw [if_neg hnb]
    have hf : fB n f id = fun _ => 0 := by unfold fB; rw [if_neg hnb]
    rw [ht, hl, hf, hb]
    refine (block_out base p n L ts ad ln cp f id W hm' h).mono ?_
    rintro e w' ⟨rfl, hb'⟩
    exact ⟨none, 0, rfl, ⟨by omega, fun h => absurd h (by omega)⟩, hb'⟩
def diffB (n1 n2 : Nat) (ts1 ts2 : Nat → Int) (ln1 ln2 : Nat → Nat) (f1 f2 : Nat → Nat → Int) (id : Int) : Bool := diffM (bB n1 id) (bB n2 id) (tB n1 ts1 id) (tB n2 ts2 id) (fB n1 f1 id) (fB n2 f2 id) (lB n1 ln1 id) (lB n2 ln2 id)
theorem changed_s (base1 base2 p1 p2 n1 n2 : Nat) (L1 L2 : Value) (ts1 ts2 : Nat → Int) (ad1 ad2 ln1 ln2 cp1 cp2 : Nat → Nat) (f1 f2 : Nat → Nat → Int) (A B : Option Addr) (q r ca cb : Nat) (ids may : Nat → Int) (w : World) (hA : RowC w A q ids) (hB : RowC w B r may)
    (hm1 : MS w base1 p1 L1 n1 ts1 ad1 ln1 cp1 f1) (hm2 : MS w base2 p2 L2 n2 ts2 ad2 ln2 cp2 f2) :
    Calls Try.prog 9 #[.pointer (some ⟨p1, 0, none⟩), .pointer (some ⟨p2, 0, none⟩), .slice A q ca, .slice B r cb] w fun e w' => e = .returned (.int .i64 (chgM ids q may r (diffB n1 n2 ts1 ts2 ln1 ln2 f1 f2))) ∧ Below w.heap.size w w' :=
  changed_c p1 p2 A B q r ca cb ids may (tB n1 ts1) (tB n2 ts2) (lB n1 ln1) (lB n2 ln2) (fB n1 f1) (fB n2 f2) (bB n1) (bB n2) w hA hB (fun id W hW => hm1.blk id W hW) (fun id W hW => hm2.blk id W hW)
theorem diffB_same (n : Nat) (ts : Nat → Int) (ln : Nat → Nat) (f : Nat → Nat → Int) (id : Int) : diffB n n ts ts ln ln f f id = false := by
  unfold diffB diffM
  have : eqI (fB n f id) (fB n f id) (lB n ln id) (lB n ln id) = true := decide_eq_true ⟨rfl, fun _ _ => rfl⟩
  rw [this]; simp
theorem diffB_at (n : Nat) (ts : Nat → Int) (ln : Nat → Nat) (f1 f2 : Nat → Nat → Int) (i : Nat) (hi : i < n) : diffB n n ts ts ln ln f1 f2 (i : Int) = !eqI (f1 i) (f2 i) (ln i) (ln i) := by
  have hb : bB n (i : Int) = true := decide_eq_true ⟨by omega, by omega⟩
  have hl : lB n ln (i : Int) = ln i := by unfold lB; rw [if_pos hb]; simp
  have hf1 : fB n f1 (i : Int) = f1 i := by unfold fB; rw [if_pos hb]; simp
  have hf2 : fB n f2 (i : Int) = f2 i := by unfold fB; rw [if_pos hb]; simp
  unfold diffB diffM
  rw [hl, hf1, hf2]; simp
/-- A memory, and a row of the first ids, apart. -/
def MI (w : World) (base p k : Nat) (L v : Value) (ts : Nat → Int) (ad ln cp : Nat → Nat) (f : Nat → Nat → Int) : Prop :=
  MS w base p L k ts ad ln cp f ∧ w.ownsRow base 3 1 v k ((List.range k).map fun j : Nat => Value.int .i64 (j : Int)) ∧ ∀ x, v.ownBlock = some x → ¬ footM p L k ad x
theorem MI.below {w w' : World} {base p k : Nat} {L v : Value} {ts : Nat → Int} {ad ln cp : Nat → Nat} {f : Nat → Nat → Int} (h : MI w base p k L v ts ad ln cp f) (hb : Below w.heap.size w w') : MI w' base p k L v ts ad ln cp f := ⟨h.1.below hb, own_below h.2.1 hb, h.2.2⟩
theorem own_kept {w w' : World} {base : Nat} {e : TypeId} {size : Nat} {v : Value} {n : Nat} {xs : List Value} (h : w.ownsRow base e size v n xs) (hk : ∀ x, v.ownBlock = some x → w'.heap[x]? = w.heap[x]?) : w'.ownsRow base e size v n xs := by
  obtain ⟨h1, h2⟩ := h
  refine ⟨h1, ?_⟩
  rcases h2 with h2 | ⟨g, cap, cur, rfl, hg, hh, r⟩
  · exact .inl h2
  · exact .inr ⟨g, cap, cur, rfl, hg, (hk g rfl).trans hh, r⟩
/-- Another block; the row is as it was: its first k ids. -/
theorem MI.add {w w' : World} {base p k : Nat} {L v : Value} {ts : Nat → Int} {ad ln cp : Nat → Nat} {f : Nat → Nat → Int} {t s : Int} {e : Ending} (h : MI w base p k L v ts ad ln cp f) (ha : AddedS w base p k L ts ad ln cp f t s e w') :
    e = .returned (.int .i64 k) ∧ Below base w w' ∧ ∃ L' ad' cp', MS w' base p L' (k + 1) (addT k ts t) ad' (addN k ln (sizeM s)) cp' (addF k f fun _ => 0) ∧ w'.ownsRow base 3 1 v k ((List.range k).map fun j : Nat => Value.int .i64 (j : Int)) ∧ ∀ x, v.ownBlock = some x → x < w.heap.size ∧ ¬ footM p L' (k + 1) ad' x := by
  obtain ⟨he, g, cap, a, hav, ⟨hb, hk, hg⟩, hm⟩ := ha
  refine ⟨he, hb, _, _, _, hm.ms, own_kept h.2.1 (fun x hx => ?_), fun x hx => ?_⟩
  · have hl := (own_blk h.2.1 x hx).2
    exact hk x hl (fun e => h.2.2 x hx (.inl e)) (fun e => h.2.2 x hx (.inr (.inl e)))
  · have hl := (own_blk h.2.1 x hx).2
    refine ⟨hl, ?_⟩
    rintro (e | e | ⟨i, hi, e⟩)
    · exact h.2.2 x hx (.inl e)
    · have e2 : g = x := by simpa [Value.ownBlock] using e
      rcases hg with hg | hg
      · exact h.2.2 x hx (.inr (.inl (by rw [hg, e2])))
      · omega
    · unfold addN at e
      by_cases c : i = k
      · rw [if_pos c] at e; omega
      · rw [if_neg c] at e; exact h.2.2 x hx (.inr (.inr ⟨i, by omega, e⟩))
/-- .. and the id behind the row. -/
theorem MI.snoc {w w2 : World} {base p k : Nat} {L v v2 : Value} {ts : Nat → Int} {ad ln cp : Nat → Nat} {f : Nat → Nat → Int} {o : Obj} (hm : MS w base p L (k + 1) ts ad ln cp f) (hx : ∀ x, v.ownBlock = some x → ¬ footM p L (k + 1) ad x)
    (hown : w2.ownsRow base 3 1 v2 (k + 1) (((List.range k).map fun j : Nat => Value.int .i64 (j : Int)) ++ [.int .i64 (k : Int)])) (hg : (w.alloc o).grownBy w2 v.ownBlock)
    (hat : v2.ownBlock = v.ownBlock ∨ v2.ownBlock = some (w.alloc o).heap.size) : MI w2 base p (k + 1) L v2 ts ad ln cp f := by
  have hsz : (w.alloc o).heap.size = w.heap.size + 1 := by simp
  refine ⟨hm.apart (by have := hg.size; omega) (fun b hb => ?_), ?_, fun x hx2 => ?_⟩
  · have hl := (hm.footM_lt b hb).2
    exact (hg.block b (by omega) (fun e => hx b e.symm hb)).trans (Below.heap_alloc w o b hl)
  · rw [List.range_succ, List.map_append, List.map_cons, List.map_nil]
    exact hown
  · rcases hat with hat | hat
    · rw [hat] at hx2; exact hx x hx2
    · rw [hat] at hx2
      injection hx2 with hx2
      intro hf
      have := (hm.footM_lt x hf).2
      omega
theorem MI.row {w : World} {base p k : Nat} {L v : Value} {ts : Nat → Int} {ad ln cp : Nat → Nat} {f : Nat → Nat → Int} (h : MI w base p k L v ts ad ln cp f) (hk : 1 ≤ k) (hk2 : k ≤ 1000) : ∃ A c, v = .slice A k c ∧ RowC w A k (fun j => (j : Int)) := by
  obtain ⟨g, cap, rfl, _, _, _, hc, _⟩ := own_row (f := fun j : Nat => Value.int .i64 (j : Int)) h.2.1 hk
  exact ⟨_, cap, rfl, by omega, fun _ => ⟨_, rfl, fun j hj => by rw [m_plain]; exact hc j hj⟩⟩
end Go.Proofs.Ytkgdogdallojlaa.C
