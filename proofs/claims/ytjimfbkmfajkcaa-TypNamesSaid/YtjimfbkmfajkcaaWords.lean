/- Words of this session: a region that draws its order, walked once in a class of worlds; small helpers. Over any program. -/
import Derived.WalkKit
import Derived.WalkLawsBesides
import Derived.KernelRfl
import Derived.Below
import Derived.Outline
import Derived.BigQuiet
import Derived.Deep.Quiet
import Derived.WalkSpells
namespace Go.Proofs.Ytjimfbkmfajkcaa.C
open Go.RowKit

/-- A world of a class. -/
structure WIn (S : World → Prop) where
  w : World
  h : S w
section
variable {P : Program}
/-- A region that draws its order: one walk, in the order of the text, serves every order, if each operation yields one value in every world of the class, and calls leave a world of the class. -/
theorem region_in {id : Nat} {Q : Exit → Act → World → Prop} {a : Act} {w : World} {l : List Oper} (S : World → Prop) (hm : P.follows .mixedOrders = true) (hB : Region.lexB .any l.toArray = true) (hS : S w.drew)
    (h : Nonempty (WIn S) → wpQuiet P l.toArray (fun w' => ∃ x : WIn S, w' = x.w) (fun a' => ∀ w', S w' → Q .normal a' w') l a) : (Code.region id l.toArray true).wp P Q a w := by
  refine wp_region_quiet (C := fun w' => ∃ x : WIn S, w' = x.w) hm hB ⟨⟨w.drew, hS⟩, rfl⟩ ?_
  have h2 := h ⟨⟨w.drew, hS⟩⟩
  have e : (fun a' => ∀ w', (∃ x : WIn S, w' = x.w) → Q .normal a' w') = (fun a' => ∀ w', S w' → Q .normal a' w') := by
    funext a'
    exact propext ⟨fun g w' hw => g w' ⟨⟨w', hw⟩, rfl⟩, fun g w' ⟨x, hx⟩ => by rw [hx]; exact g _ x.h⟩
  rw [e]
  simpa using h2
/-- A call in such a region, by a contract that leaves what was there as it was. -/
theorem call_in {S : World → Prop} {f : FuncId} {args : Array Value} {v : Value} (hS : ∀ w w', S w → Below w.heap.size w w' → S w') (x : WIn S)
    (h : Calls P f args x.w fun e w' => e = .returned v ∧ Below x.w.heap.size x.w w') : Calls P f args x.w fun e w'' => e = .returned v ∧ ∃ y : WIn S, w'' = y.w :=
  h.mono fun _ w' ⟨he, hb⟩ => ⟨he, ⟨w', hS _ _ x.h hb⟩, rfl⟩
theorem call_same {S : World → Prop} {f : FuncId} {args : Array Value} {v : Value} (x : WIn S)
    (h : Calls P f args x.w fun e w' => e = .returned v ∧ x.w = w') : Calls P f args x.w fun e w'' => e = .returned v ∧ ∃ y : WIn S, w'' = y.w :=
  h.mono fun _ _ ⟨he, hb⟩ => ⟨he, x, hb.symm⟩
/-- The class of all worlds that have grown out of one. -/
theorem call_grow {B : Nat} {w0 : World} {f : FuncId} {args : Array Value} {v : Value} {x : WIn (Below B w0)} (hB : B ≤ w0.heap.size)
    (h : Calls P f args x.w fun e w' => e = .returned v ∧ Below x.w.heap.size x.w w') : Calls P f args x.w fun e w'' => e = .returned v ∧ ∃ y : WIn (Below B w0), w'' = y.w :=
  call_in (fun _ _ h1 h2 => h1.trans (h2.mono (Nat.le_trans hB h1.size))) x h
end
/-- Below, from an elder world on. -/
theorem below_next {B : Nat} {w w1 w2 : World} (h : Below B w w1) (hB : B ≤ w1.heap.size) (k : Below w1.heap.size w1 w2) : Below B w w2 := h.trans (k.mono hB)
end Go.Proofs.Ytjimfbkmfajkcaa.C
