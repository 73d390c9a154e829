/- Matrices in memory: read (RM), of the call's own (OM); what stores and calls keep. Over any program. -/
import Derived.Test.YtdmphpkiclfhhaaWords
import Derived.Test.YtdmphpkiclfhhaaOpen
import Derived.Test.YtdmphpkiclfhhaaZPure
import Derived.Lib.Hide
import Derived.Laws.AppendOwn
import Derived.Deep.RegionHeld
namespace Go.Proofs.Ytdmphpkiclfhhaa.C
open Go.RowKit
set_option linter.unusedVariables false
/-- A square matrix that is read. -/
def RM (w : World) (ad : Addr) (n : Nat) (m : Z.M) : Prop :=
  ∃ (R : Nat → Addr) (C : Nat → Nat), (∀ i, i < n → w.cell? (ad.add i) = some (.slice (some (R i)) n (C i)) ∧ n ≤ C i) ∧ ∀ i j, i < n → j < n → w.cell? ((R i).add j) = some (.int .i64 (m i j))
/-- A square matrix of the call's own. -/
structure OM (w : World) (base B : Nat) (R C : Nat → Nat) (n : Nat) (m : Z.M) : Prop where
  hB : base ≤ B ∧ B < w.heap.size
  hR : ∀ i, i < n → base ≤ R i ∧ R i < w.heap.size ∧ R i ≠ B ∧ n ≤ C i
  inj : ∀ i j, i < n → j < n → R i = R j → i = j
  outer : ∀ i, i < n → w.cell? ⟨B, i, none⟩ = some (.slice (some ⟨R i, 0, none⟩) n (C i))
  inner : ∀ i j, i < n → j < n → w.cell? ⟨R i, j, none⟩ = some (.int .i64 (m i j))
  frz : ∀ i j, i < n → j < n → w.frozen? ⟨R i, j, none⟩ = false
theorem addr_plain (g j : Nat) : (⟨g, 0, none⟩ : Addr).add j = ⟨g, j, none⟩ := by unfold Addr.add; split <;> simp_all
theorem cell_kept {w w' : World} {p : Addr} (h : w'.heap[p.block]? = w.heap[p.block]?) : w'.cell? p = w.cell? p := World.cell?_of_block (w := w) h
theorem frozen_kept {w w' : World} {p : Addr} (h : w'.heap[p.block]? = w.heap[p.block]?) : w'.frozen? p = w.frozen? p := World.frozen?_of_block (w := w) h
theorem RM.below {w w' : World} {ad : Addr} {n : Nat} {m : Z.M} (h : RM w ad n m) (hb : Below w.heap.size w w') : RM w' ad n m := by
  obtain ⟨R, C, h1, h2⟩ := h
  refine ⟨R, C, fun i hi => ⟨?_, (h1 i hi).2⟩, fun i j hi hj => ?_⟩
  · rw [hb.cell (World.block_lt_of_cell? w _ (h1 i hi).1)]; exact (h1 i hi).1
  · rw [hb.cell (World.block_lt_of_cell? w _ (h2 i j hi hj))]; exact h2 i j hi hj
theorem OM.rm {w : World} {base B n : Nat} {R C : Nat → Nat} {m : Z.M} (h : OM w base B R C n m) : RM w ⟨B, 0, none⟩ n m :=
  ⟨fun i => ⟨R i, 0, none⟩, C, fun i hi => ⟨by rw [addr_plain]; exact h.outer i hi, (h.hR i hi).2.2.2⟩, fun i j hi hj => by rw [addr_plain]; exact h.inner i j hi hj⟩
/-- All elder blocks but those of the rows are as they were. -/
structure Kept (R : Nat → Nat) (n : Nat) (w w' : World) : Prop where
  os : w'.os = w.os
  tape : w'.tape = w.tape
  output : w'.output = w.output
  size : w.heap.size ≤ w'.heap.size
  block : ∀ b, b < w.heap.size → (∀ i, i < n → b ≠ R i) → w'.heap[b]? = w.heap[b]?
theorem Kept.refl (R : Nat → Nat) (n : Nat) (w : World) : Kept R n w w := ⟨rfl, rfl, rfl, Nat.le_refl _, fun _ _ _ => rfl⟩
theorem Kept.trans {R : Nat → Nat} {n : Nat} {a b c : World} (h : Kept R n a b) (k : Kept R n b c) : Kept R n a c :=
  ⟨k.os.trans h.os, k.tape.trans h.tape, k.output.trans h.output, Nat.le_trans h.size k.size, fun b hl hb => (k.block b (Nat.lt_of_lt_of_le hl h.size) hb).trans (h.block b hl hb)⟩
theorem Kept.grow {R : Nat → Nat} {n : Nat} {a b c : World} (h : Kept R n a b) (k : Below b.heap.size b c) : Kept R n a c :=
  h.trans ⟨k.os, k.tape, k.output, k.size, fun q hq _ => k.block q hq⟩
theorem Kept.drew {R : Nat → Nat} {n : Nat} {a b : World} (h : Kept R n a b) : Kept R n a b.drew := ⟨h.os, h.tape, h.output, h.size, h.block⟩
theorem Kept.setCell {R : Nat → Nat} {n : Nat} {a b : World} (h : Kept R n a b) {i : Nat} (hi : i < n) (o : Nat) (v : Value) : Kept R n a (b.setCell ⟨R i, o, none⟩ v) :=
  ⟨by have := (Below.refl 0 b).setCell (p := ⟨R i, o, none⟩) (Nat.zero_le _) v; exact this.os.trans h.os, by have := (Below.refl 0 b).setCell (p := ⟨R i, o, none⟩) (Nat.zero_le _) v; exact this.tape.trans h.tape,
   by have := (Below.refl 0 b).setCell (p := ⟨R i, o, none⟩) (Nat.zero_le _) v; exact this.output.trans h.output, by have := h.size; simpa using this,
   fun q hl hq => (Below.heap_setCell b ⟨R i, o, none⟩ v q (hq i hi)).trans (h.block q hl hq)⟩
/-- A store into a newer block. -/
theorem Kept.setOut {R : Nat → Nat} {n : Nat} {a b : World} (h : Kept R n a b) {p : Addr} (_ : ∀ i, i < n → p.block ≠ R i) (hp : a.heap.size ≤ p.block) (v : Value) : Kept R n a (b.setCell p v) :=
  ⟨by have := (Below.refl 0 b).setCell (p := p) (Nat.zero_le _) v; exact this.os.trans h.os, by have := (Below.refl 0 b).setCell (p := p) (Nat.zero_le _) v; exact this.tape.trans h.tape,
   by have := (Below.refl 0 b).setCell (p := p) (Nat.zero_le _) v; exact this.output.trans h.output, by have := h.size; simpa using this,
   fun q hl hq => (Below.heap_setCell b p v q (by omega)).trans (h.block q hl hq)⟩
theorem Kept.below {R : Nat → Nat} {n base : Nat} {w a b : World} (h : Kept R n a b) (hR : ∀ i, i < n → base ≤ R i) (hb : Below base w a) (hba : base ≤ a.heap.size) : Below base w b :=
  ⟨h.os.trans hb.os, h.tape.trans hb.tape, h.output.trans hb.output, Nat.le_trans hb.size h.size, fun k hk => (h.block k (by omega) (fun i hi => by have := hR i hi; omega)).trans (hb.block k hk)⟩
theorem Kept.cell {R : Nat → Nat} {n : Nat} {a b : World} (h : Kept R n a b) {p : Addr} (hl : p.block < a.heap.size) (hp : ∀ i, i < n → p.block ≠ R i) : b.cell? p = a.cell? p := cell_kept (h.block p.block hl hp)
theorem Kept.frozen {R : Nat → Nat} {n : Nat} {a b : World} (h : Kept R n a b) {p : Addr} (hl : p.block < a.heap.size) (hp : ∀ i, i < n → p.block ≠ R i) : b.frozen? p = a.frozen? p := frozen_kept (h.block p.block hl hp)
/-- A matrix of which nothing has been written. -/
theorem OM.keep {w w' : World} {base B n : Nat} {R C : Nat → Nat} {m : Z.M} (h : OM w base B R C n m) (hs : w.heap.size ≤ w'.heap.size) (hb : w'.heap[B]? = w.heap[B]?) (hr : ∀ i, i < n → w'.heap[R i]? = w.heap[R i]?) : OM w' base B R C n m :=
  ⟨⟨h.hB.1, by have := h.hB.2; omega⟩, fun i hi => ⟨(h.hR i hi).1, by have := (h.hR i hi).2.1; omega, (h.hR i hi).2.2⟩, h.inj, fun i hi => (cell_kept (p := ⟨B, i, none⟩) hb).trans (h.outer i hi),
   fun i j hi hj => (cell_kept (p := ⟨R i, j, none⟩) (hr i hi)).trans (h.inner i j hi hj), fun i j hi hj => (frozen_kept (p := ⟨R i, j, none⟩) (hr i hi)).trans (h.frz i j hi hj)⟩
theorem OM.below {w w' : World} {base B n : Nat} {R C : Nat → Nat} {m : Z.M} (h : OM w base B R C n m) (hb : Below w.heap.size w w') : OM w' base B R C n m :=
  h.keep hb.size (hb.block B h.hB.2) (fun i hi => hb.block _ (h.hR i hi).2.1)
theorem OM.drew {w : World} {base B n : Nat} {R C : Nat → Nat} {m : Z.M} (h : OM w base B R C n m) : OM w.drew base B R C n m := h.keep (Nat.le_refl _) rfl (fun _ _ => rfl)
theorem OM.alike {w : World} {base B n : Nat} {R C : Nat → Nat} {m m' : Z.M} (h : OM w base B R C n m) (ha : Z.Alike m m' n) : OM w base B R C n m' :=
  ⟨h.hB, h.hR, h.inj, h.outer, fun i j hi hj => by rw [← ha i j hi hj]; exact h.inner i j hi hj, h.frz⟩
theorem OM.lower {w : World} {base base' B n : Nat} {R C : Nat → Nat} {m : Z.M} (h : OM w base B R C n m) (hb : base' ≤ base) : OM w base' B R C n m :=
  ⟨⟨by have := h.hB.1; omega, h.hB.2⟩, fun i hi => ⟨by have := (h.hR i hi).1; omega, (h.hR i hi).2⟩, h.inj, h.outer, h.inner, h.frz⟩
/-- One place is written. -/
theorem OM.set {w : World} {base B n : Nat} {R C : Nat → Nat} {m : Z.M} (h : OM w base B R C n m) {i j : Nat} (hi : i < n) (hj : j < n) (v : Int) : OM (w.setCell ⟨R i, j, none⟩ (.int .i64 v)) base B R C n (Z.upd m i j v) := by
  have hs : (w.setCell ⟨R i, j, none⟩ (.int .i64 v)).heap.size = w.heap.size := by simp
  refine ⟨⟨h.hB.1, by rw [hs]; exact h.hB.2⟩, fun a ha => by rw [hs]; exact h.hR a ha, h.inj, fun a ha => ?_, fun a b ha hb => ?_, fun a b ha hb => ?_⟩
  · rw [World.cell?_setCell_far _ _ _ _ (h.hR i hi).2.2.1]; exact h.outer a ha
  · by_cases e : a = i ∧ b = j
    · obtain ⟨rfl, rfl⟩ := e
      rw [World.cell?_setCell_same _ _ _ (h.inner a b ha hb), Z.upd_same]
    · rw [World.cell?_setCell_other _ _ _ _ (fun q => e (by injection q with q1 q2; exact ⟨h.inj a i ha hi q1.symm, q2.symm⟩)), Z.upd_other _ _ _ _ e]; exact h.inner a b ha hb
  · simp [go_sem]; exact h.frz a b ha hb
end Go.Proofs.Ytdmphpkiclfhhaa.C
