/- MemoryRuns: two memories side by side (under way). -/
import Derived.Test.YtkgdogdallojlaaMem18
namespace Go.Proofs.Ytkgdogdallojlaa.C
open Go.RowKit
set_option linter.unusedSimpArgs false
set_option linter.unusedVariables false
/-- The blocks of a memory. -/
def foot (p : Nat) (L : Value) (n : Nat) (ad : Nat → Nat) (x : Nat) : Prop := x = p ∨ L.ownBlock = some x ∨ ∃ i, i < n ∧ ad i = x
/-- Two memories that have no block in common. -/
structure Pair (w : World) (base p1 p2 : Nat) (L1 L2 : Value) (n1 n2 : Nat) (ts1 ts2 : Nat → Int) (ad1 ad2 ln1 ln2 cp1 cp2 : Nat → Nat) (f1 f2 : Nat → Nat → Int) : Prop where
  a : MS w base p1 L1 n1 ts1 ad1 ln1 cp1 f1
  b : MS w base p2 L2 n2 ts2 ad2 ln2 cp2 f2
  apart : ∀ x, foot p1 L1 n1 ad1 x → ¬ foot p2 L2 n2 ad2 x
theorem Pair.swap {w : World} {base p1 p2 : Nat} {L1 L2 : Value} {n1 n2 : Nat} {ts1 ts2 : Nat → Int} {ad1 ad2 ln1 ln2 cp1 cp2 : Nat → Nat} {f1 f2 : Nat → Nat → Int} (h : Pair w base p1 p2 L1 L2 n1 n2 ts1 ts2 ad1 ad2 ln1 ln2 cp1 cp2 f1 f2) : Pair w base p2 p1 L2 L1 n2 n1 ts2 ts1 ad2 ad1 ln2 ln1 cp2 cp1 f2 f1 :=
  ⟨h.b, h.a, fun x h1 h2 => h.apart x h2 h1⟩
theorem MS.foot_lt {w : World} {base p n : Nat} {L : Value} {ts : Nat → Int} {ad ln cp : Nat → Nat} {f : Nat → Nat → Int} (h : MS w base p L n ts ad ln cp f) (x : Nat) (hx : foot p L n ad x) : x < w.heap.size := by
  rcases hx with rfl | hx | ⟨i, hi, rfl⟩
  · exact h.hp.2
  · exact (h.own.blk x hx).2
  · exact (h.hA i hi).2.1
/-- What was done to the first memory leaves the second one alone. -/
theorem Pair.step {w w' : World} {base p1 p2 : Nat} {L1 L2 : Value} {n1 n2 : Nat} {ts1 ts2 : Nat → Int} {ad1 ad2 ln1 ln2 cp1 cp2 : Nat → Nat} {f1 f2 : Nat → Nat → Int} (h : Pair w base p1 p2 L1 L2 n1 n2 ts1 ts2 ad1 ad2 ln1 ln2 cp1 cp2 f1 f2)
    {q n : Nat} {L : Value} {ts : Nat → Int} {ad ln cp : Nat → Nat} {f : Nat → Nat → Int} (hs : w.heap.size ≤ w'.heap.size) (ha : MS w' base q L n ts ad ln cp f)
    (hk : ∀ b, b < w.heap.size → ¬ foot p1 L1 n1 ad1 b → w'.heap[b]? = w.heap[b]?) (hf : ∀ x, foot q L n ad x → foot p1 L1 n1 ad1 x ∨ w.heap.size ≤ x) :
    Pair w' base q p2 L L2 n n2 ts ts2 ad ad2 ln ln2 cp cp2 f f2 := by
  have kk : ∀ x, foot p2 L2 n2 ad2 x → w'.heap[x]? = w.heap[x]? := fun x hx => hk x (h.b.foot_lt x hx) (fun h1 => h.apart x h1 hx)
  refine ⟨ha, h.b.keep hs (kk p2 (.inl rfl)) (fun b e => kk b (.inr (.inl e))) (fun i hi => kk _ (.inr (.inr ⟨i, hi, rfl⟩))), fun x h1 h2 => ?_⟩
  rcases hf x h1 with h3 | h3
  · exact h.apart x h3 h2
  · have := h.b.foot_lt x h2; omega
/-- Add, done to the first memory. -/
theorem Pair.added {w w' : World} {base p1 p2 : Nat} {L1 L2 : Value} {n1 n2 : Nat} {ts1 ts2 : Nat → Int} {ad1 ad2 ln1 ln2 cp1 cp2 : Nat → Nat} {f1 f2 : Nat → Nat → Int} (h : Pair w base p1 p2 L1 L2 n1 n2 ts1 ts2 ad1 ad2 ln1 ln2 cp1 cp2 f1 f2)
    {t s : Int} {e : Ending} (ha : AddedS w base p1 n1 L1 ts1 ad1 ln1 cp1 f1 t s e w') :
    e = .returned (.int .i64 n1) ∧ Below base w w' ∧ ∃ L a, Pair w' base p1 p2 L L2 (n1 + 1) n2 (addT n1 ts1 t) ts2 (addN n1 ad1 a) ad2 (addN n1 ln1 (sizeM s)) ln2 (addN n1 cp1 (sizeM s)) cp2 (addF n1 f1 fun _ => 0) f2 := by
  obtain ⟨he, g, cap, a, haw, ⟨hb, hk, hg⟩, hm⟩ := ha
  refine ⟨he, hb, _, a, h.step hb.size hm.ms (fun b hbl hnf => hk b hbl (fun e => hnf (.inl e)) (fun e => hnf (.inr (.inl e)))) (fun x hx => ?_)⟩
  rcases hx with hx | hx | ⟨i, hi, hx⟩
  · exact .inl (.inl hx)
  · have hx2 : g = x := by simpa [Value.ownBlock] using hx
    rcases hg with hg | hg
    · exact .inl (.inr (.inl (by rw [hg, hx2])))
    · exact .inr (by omega)
  · unfold addN at hx
    by_cases e : i = n1
    · rw [if_pos e] at hx; exact .inr (by omega)
    · rw [if_neg e] at hx; exact .inl (.inr (.inr ⟨i, by omega, hx⟩))
/-- Set, done to the first memory. -/
theorem Pair.setP {w w' : World} {base p1 p2 : Nat} {L1 L2 : Value} {n1 n2 : Nat} {ts1 ts2 : Nat → Int} {ad1 ad2 ln1 ln2 cp1 cp2 : Nat → Nat} {f1 f2 : Nat → Nat → Int} (h : Pair w base p1 p2 L1 L2 n1 n2 ts1 ts2 ad1 ad2 ln1 ln2 cp1 cp2 f1 f2)
    {id at' v : Int} {e : Ending} (ha : SetPost w base p1 n1 L1 ts1 ad1 ln1 cp1 f1 id at' v e w') :
    e = .returned (.bool (hasM n1 ln1 id at')) ∧ Below base w w' ∧ Pair w' base p1 p2 L1 L2 n1 n2 ts1 ts2 ad1 ad2 ln1 ln2 cp1 cp2 (setM n1 ln1 ts1 f1 id at' v) f2 := by
  obtain ⟨he, hb, hm, hk⟩ := ha
  exact ⟨he, hb, h.step hb.size hm (fun b hbl hnf => hk b hbl (fun i hi q => hnf (.inr (.inr ⟨i, hi, q⟩)))) (fun x hx => .inl hx)⟩
/-- Cut, done to the first memory. -/
theorem Pair.cutP {w w' : World} {base p1 p2 : Nat} {L1 L2 : Value} {n1 n2 : Nat} {ts1 ts2 : Nat → Int} {ad1 ad2 ln1 ln2 cp1 cp2 : Nat → Nat} {f1 f2 : Nat → Nat → Int} (h : Pair w base p1 p2 L1 L2 n1 n2 ts1 ts2 ad1 ad2 ln1 ln2 cp1 cp2 f1 f2)
    {c : Int} {e : Ending} (ha : CutPost w base p1 n1 L1 ts1 ad1 ln1 cp1 f1 c e w') :
    e = .returned (.tuple #[]) ∧ Below base w w' ∧ ∃ L, Pair w' base p1 p2 L L2 (cutM c n1) n2 ts1 ts2 ad1 ad2 ln1 ln2 cp1 cp2 f1 f2 := by
  obtain ⟨he, hb, ⟨L', hL, hm⟩, hk⟩ := ha
  have hle := cutM_le c n1
  refine ⟨he, hb, L', h.step hb.size hm (fun b hbl hnf => hk b hbl (fun e => hnf (.inl e))) (fun x hx => ?_)⟩
  rcases hx with hx | hx | ⟨i, hi, hx⟩
  · exact .inl (.inl hx)
  · rcases hL with hL | ⟨b, hb1, hb2⟩
    · exact .inl (.inr (.inl (by rw [← hL]; exact hx)))
    · rw [hb2] at hx; injection hx with hx; exact .inr (by omega)
  · exact .inl (.inr (.inr ⟨i, by omega, hx⟩))
/-- A copy takes the first memory's place. -/
theorem Pair.copyP {w w' : World} {base p1 p2 : Nat} {L1 L2 : Value} {n1 n2 : Nat} {ts1 ts2 : Nat → Int} {ad1 ad2 ln1 ln2 cp1 cp2 : Nat → Nat} {f1 f2 : Nat → Nat → Int} (h : Pair w base p1 p2 L1 L2 n1 n2 ts1 ts2 ad1 ad2 ln1 ln2 cp1 cp2 f1 f2) (hb0 : base ≤ w.heap.size)
    {e : Ending} (ha : CopyPost n1 ts1 ln1 f1 w e w') :
    ∃ p L ad cp, e = .returned (.pointer (some ⟨p, 0, none⟩)) ∧ Below w.heap.size w w' ∧ Pair w' base p p2 L L2 n1 n2 ts1 ts2 ad ad2 ln1 ln2 cp cp2 f1 f2 := by
  obtain ⟨p, L, ad, cp, he, hb, hm⟩ := ha
  refine ⟨p, L, ad, cp, he, hb, h.step hb.size (hm.mono hb0) (fun b hbl _ => hb.block b hbl) (fun x hx => .inr ?_)⟩
  rcases hx with rfl | hx | ⟨i, hi, rfl⟩
  · exact hm.hp.1
  · exact (hm.own.blk x hx).1
  · exact (hm.hA i hi).1
end Go.Proofs.Ytkgdogdallojlaa.C
