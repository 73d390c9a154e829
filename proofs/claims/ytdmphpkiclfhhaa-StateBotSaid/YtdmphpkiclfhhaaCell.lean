/- Rows of intervals: what is known of them; boxes of two numbers; closed forms of cells' functions. -/
import Derived.Test.YtdmphpkiclfhhaaRefItv
import Derived.Test.YtdmphpkiclfhhaaOpen
import Derived.BigFrame
import Derived.BigGuard
import Derived.Deep.CutBlock
import Derived.Deep.Slices
import Derived.Deep.RegionHeld3
import Derived.Lib.Hide
import Derived.Lib.LazyBuf
import Derived.Laws.OwnMore
import Derived.Maps.AppendAt
import Derived.OwnWalk
namespace Go.Proofs.Ytdmphpkiclfhhaa.C
open Go.RowKit
set_option linter.unusedSimpArgs false
set_option linter.unusedVariables false
/-- A row of intervals that is read. -/
def CR (w : World) (A : Option Addr) (n : Nat) (r : Nat → Int × Int) : Prop :=
  n ≤ 9223372036854775807 ∧ (0 < n → ∃ ad : Addr, A = some ad ∧ ad.block < w.heap.size ∧ ∀ i, i < n → w.cell? (ad.add (i * 2)) = some (.int .i64 (r i).1) ∧ w.cell? (ad.add (i * 2 + 1)) = some (.int .i64 (r i).2))
theorem CR.below {w w' : World} {A : Option Addr} {n : Nat} {r : Nat → Int × Int} (h : CR w A n r) (hb : Below w.heap.size w w') : CR w' A n r :=
  ⟨h.1, fun h0 => by
    obtain ⟨ad, e, hl, hc⟩ := h.2 h0
    exact ⟨ad, e, Nat.lt_of_lt_of_le hl hb.size, fun i hi => ⟨cell_later hb (hc i hi).1, cell_later hb (hc i hi).2⟩⟩⟩
theorem CR.at {w : World} {A : Option Addr} {n : Nat} {r : Nat → Int × Int} (h : CR w A n r) {k : Nat} (hk : k < n) :
    ∃ ad : Addr, A = some ad ∧ ad.block < w.heap.size ∧ w.cell? (ad.add (k * 2)) = some (.int .i64 (r k).1) ∧ w.cell? { block := (ad.add (k * 2)).block, off := (ad.add (k * 2)).off + 1 } = some (.int .i64 (r k).2) := by
  obtain ⟨ad, e, hl, hc⟩ := h.2 (by omega)
  refine ⟨ad, e, hl, (hc k hk).1, ?_⟩
  have := (hc k hk).2
  rw [← Go.Deep.add_add] at this
  exact this
theorem CR.congr {w : World} {A : Option Addr} {n : Nat} {r s : Nat → Int × Int} (h : CR w A n r) (e : ∀ i, i < n → r i = s i) : CR w A n s :=
  ⟨h.1, fun h0 => by
    obtain ⟨ad, e0, hl, hc⟩ := h.2 h0
    exact ⟨ad, e0, hl, fun i hi => by rw [← e i hi]; exact hc i hi⟩⟩
/-- A block of two numbers. -/
def Bx (b : Nat) (wr : World) (x y : Int) : Prop := b < wr.heap.size ∧ (∀ o, wr.cell? ⟨b, o, none⟩ = [Value.int .i64 x, Value.int .i64 y][o]?) ∧ (∀ o, wr.frozen? ⟨b, o, none⟩ = false)
theorem Bx.below {b : Nat} {wr w' : World} {x y : Int} (h : Bx b wr x y) (hb : Below wr.heap.size wr w') : Bx b w' x y :=
  ⟨Nat.lt_of_lt_of_le h.1 hb.size, fun o => (hb.cell (p := ⟨b, o, none⟩) h.1).trans (h.2.1 o), fun o => (hb.frozen (p := ⟨b, o, none⟩) h.1).trans (h.2.2 o)⟩
theorem Bx.new (w : World) (t : TypeId) (x y : Int) : Bx w.heap.size (w.alloc (.cells #[.int .i64 x, .int .i64 y] t)) x y := ⟨by simp, by intro o; simp [go_sem], by intro o; simp [go_sem]⟩
theorem Bx.put {b : Nat} {wr : World} {x y : Int} (h : Bx b wr x y) (x' y' : Int) : Bx b ((wr.setCell ⟨b, 0, none⟩ (.int .i64 x')).setCell ⟨b, 1, none⟩ (.int .i64 y')) x' y' := by
  have h0 : wr.cell? ⟨b, 0, none⟩ = some (.int .i64 x) := by simpa using h.2.1 0
  have h1 : wr.cell? ⟨b, 1, none⟩ = some (.int .i64 y) := by simpa using h.2.1 1
  refine ⟨by simp [go_sem]; exact h.1, fun o => ?_, fun o => by simp [go_sem]; exact h.2.2 o⟩
  match o with
  | 0 => simp [go_sem, h0]
  | 1 => simp [go_sem, h1]
  | o + 2 => have := h.2.1 (o + 2); simp [go_sem, this]
theorem Bx.other {b c : Nat} {wr : World} {x y : Int} (h : Bx b wr x y) (hne : b ≠ c) (x' y' : Int) : Bx b ((wr.setCell ⟨c, 0, none⟩ (.int .i64 x')).setCell ⟨c, 1, none⟩ (.int .i64 y')) x y := by
  have hne' : c ≠ b := fun e => hne e.symm
  refine ⟨by simp [go_sem]; exact h.1, fun o => ?_, fun o => ?_⟩
  · have := h.2.1 o; simp [go_sem, hne, hne', this]
  · have := h.2.2 o; simp [go_sem, hne, hne', this]
/-- What is read of the first k places. -/
def readC (r : Nat → Int × Int) (a b : Int) : Nat → Int × Int
  | 0 => (1, 0)
  | k + 1 => if a ≤ (k : Int) ∧ (k : Int) ≤ b then joinI (readC r a b k).1 (readC r a b k).2 (r k).1 (r k).2 else readC r a b k
def writeC (r : Nat → Int × Int) (a b x y : Int) : Nat → Int × Int := fun i => if a ≤ (i : Int) ∧ (i : Int) ≤ b then (if a = b then toldI x y else joinI (r i).1 (r i).2 x y) else r i
def leC (r s : Nat → Int × Int) (n m : Nat) : Bool := decide (n = m ∧ ∀ i, i < n → leI (r i).1 (r i).2 (s i).1 (s i).2 = true)
def sameC (r s : Nat → Int × Int) (n m : Nat) : Bool := decide (n = m ∧ ∀ i, i < n → r i = s i)
def joinC (r s : Nat → Int × Int) (n m : Nat) : Nat → Int × Int := fun i => if n = m then joinI (r i).1 (r i).2 (s i).1 (s i).2 else r i
def widenC (r s : Nat → Int × Int) (n m : Nat) (t : Int) : Nat → Int × Int := fun i => if n = m then widenI (r i).1 (r i).2 (s i).1 (s i).2 t else r i
theorem join_self (x y : Int) : joinI x y x y = toldI x y := by
  unfold joinI toldI
  by_cases h : y < x
  · rw [if_pos h]
  · rw [if_neg h, if_neg h, if_neg h]
    congr 1 <;> omega
/-- Reading goes on: two boxes and what has been read. -/
def RdIn (w : World) (b5 : Nat) (a b x y : Int) (wr : World) : Prop := Below w.heap.size w wr ∧ w.heap.size + 1 < b5 ∧ Bx w.heap.size wr a b ∧ Bx (w.heap.size + 1) wr 0 0 ∧ Bx b5 wr x y
theorem RdIn.below {w wr w' : World} {b5 : Nat} {a b x y : Int} (h : RdIn w b5 a b x y wr) (hb : Below wr.heap.size wr w') : RdIn w b5 a b x y w' :=
  ⟨below_next h.1 h.1.size hb, h.2.1, h.2.2.1.below hb, h.2.2.2.1.below hb, h.2.2.2.2.below hb⟩
theorem RdIn.put {w wr : World} {b5 : Nat} {a b x y : Int} (h : RdIn w b5 a b x y wr) (x' y' : Int) : RdIn w b5 a b x' y' ((wr.setCell ⟨b5, 0, none⟩ (.int .i64 x')).setCell ⟨b5, 1, none⟩ (.int .i64 y')) := by
  have := h.2.1
  exact ⟨(h.1.setCell (by show w.heap.size ≤ b5; omega) _).setCell (by show w.heap.size ≤ b5; omega) _, h.2.1, h.2.2.1.other (by omega) _ _, h.2.2.2.1.other (by omega) _ _, h.2.2.2.2.put _ _⟩
end Go.Proofs.Ytdmphpkiclfhhaa.C
