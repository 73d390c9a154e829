/- Rows of nodes of expressions in memory; the reference's two, level: walks. -/
import Derived.Test.YtnnhdkchdjddkaaParM2
namespace Go.Proofs.Ytnnhdkchdjddkaa.C
open Go.RowKit
set_option linter.unusedSimpArgs false
set_option linter.unusedVariables false
theorem infoEx : (Try.prog.info? 73).map (fun i => (i.zero, i.size, i.bytes)) = some (some (.agg #[.int .i64 0, .int .i64 0, .int .i64 0, .string ByteArray.empty, .int .i64 0, .int .i64 0, .int .i64 0]), 7, 64) := by kernel_rfl
/-- The cells of a node. -/
def exV (x : Ex) : List Value := [.int .i64 x.k, .int .i64 x.num, .int .i64 x.t, .string ⟨x.nm.toArray⟩, .int .i64 x.a, .int .i64 x.b, .int .i64 x.at_]
def xsE (l : List Ex) : List Value := l.flatMap exV
theorem xsE_snoc (l : List Ex) (x : Ex) : xsE (l ++ [x]) = xsE l ++ exV x := by simp [xsE]
/-- A row of nodes of the call's own. -/
def OE (w : World) (base : Nat) (A : Option Addr) (l : List Ex) (c : Nat) : Prop := w.ownsRow base 73 7 (.slice A l.length c) l.length (xsE l)
/-- The block of a row. -/
def Blk (A : Option Addr) (n c : Nat) (k : Nat) : Prop := (Value.slice A n c).ownBlock = some k
theorem OE.nil (w : World) (base : Nat) : OE w base none [] 0 := World.ownsRow_nil _ _ _ _
theorem OE.ge {w : World} {base : Nat} {A : Option Addr} {l : List Ex} {c k : Nat} (h : OE w base A l c) (hk : Blk A l.length c k) : base ≤ k ∧ k < w.heap.size := World.ownsRow.lt h k hk
theorem OE.fr {S : Nat → Prop} {w w' : World} {base : Nat} {A : Option Addr} {l : List Ex} {c : Nat} (h : OE w base A l c) (hf : Fr S w w') (hS : ∀ k, Blk A l.length c k → ¬ S k) : OE w' base A l c := by
  obtain ⟨h1, h2⟩ := h
  refine ⟨h1, ?_⟩
  rcases h2 with h2 | ⟨g, cap, cur, e, hg, hh, r⟩
  · exact .inl h2
  · refine .inr ⟨g, cap, cur, e, hg, (hf.block g (Array.getElem?_eq_some_iff.1 hh).1 (hS g ?_)).trans hh, r⟩
    unfold Blk
    rw [e]
    rfl
theorem OE.snoc {w w1 w2 : World} {base : Nat} {A : Option Addr} {l : List Ex} {c : Nat} {x : Ex} {v : Value} {o : Obj} (hs : OE w base A l c) (hb : Below w.heap.size w w1)
    (hown : w2.ownsRow base 73 7 v (l.length + 1) (xsE l ++ exV x)) (hg : (w1.alloc o).grownBy w2 (Value.slice A l.length c).ownBlock) (hat : v.ownBlock = (Value.slice A l.length c).ownBlock ∨ v.ownBlock = some (w1.alloc o).heap.size) :
    ∃ A2 c2, v = .slice A2 (l ++ [x]).length c2 ∧ OE w2 base A2 (l ++ [x]) c2 ∧ Fr (Blk A l.length c) w w2 ∧ (∀ k, Blk A2 (l ++ [x]).length c2 k → Blk A l.length c k ∨ w.heap.size ≤ k) := by
  have ha : Below w.heap.size w (w1.alloc o) := hb.alloc hb.size o
  have hf : Fr (Blk A l.length c) w w2 := ⟨hg.os.trans ha.os, hg.tape.trans ha.tape, hg.output.trans ha.output, Nat.le_trans ha.size hg.size, fun k hk hn => (hg.block k (by have := ha.size; omega) (fun e => hn e.symm)).trans (ha.block k hk)⟩
  rw [← xsE_snoc] at hown
  rcases hown.2 with ⟨_, h⟩ | ⟨g, cap, cur, rfl, _⟩
  · omega
  · refine ⟨some ⟨g, 0, none⟩, cap, by rw [List.length_append]; rfl, by unfold OE; rw [List.length_append]; exact hown, hf, fun k hk => ?_⟩
    have hk2 : (Value.slice (some ⟨g, 0, none⟩) (l.length + 1) cap).ownBlock = some k := by
      unfold Blk at hk
      rw [List.length_append] at hk
      exact hk
    rcases hat with hat | hat
    · exact .inl (hat.symm.trans hk2)
    · have := hat.symm.trans hk2
      injection this with this
      have := ha.size
      exact .inr (by omega)
set_option maxHeartbeats 1600000 in
theorem two_c {base : Nat} {A : Option Addr} {l : List Ex} {c : Nat} {w : World} (h : OE w base A l c) (hb : base ≤ w.heap.size) (hl : l.length ≤ 200000) (a kind at_ : Int) :
    Calls Try.prog 55 #[.slice A l.length c, .int .i64 a, .int .i64 kind, .int .i64 at_] w fun e w' => ∃ A2 c2, e = .returned (.slice A2 (l ++ [nodeP kind a ((l.length : Int) - 1) at_]).length c2) ∧ OE w' base A2 (l ++ [nodeP kind a ((l.length : Int) - 1) at_]) c2 ∧ Fr (Blk A l.length c) w w' ∧ (∀ k, Blk A2 (l ++ [nodeP kind a ((l.length : Int) - 1) at_]).length c2 k → Blk A l.length c k ∨ w.heap.size ≤ k) := by
  obtain ⟨i0, hi, hzz⟩ := Option.map_eq_some_iff.1 infoEx
  simp only [Prod.mk.injEq] at hzz
  have HInf := Lib.hid (And.intro hi hzz)
  clear hi hzz
  have H := Lib.hid h
  have HOw : Hid (∀ o : Obj, (w.alloc o).ownsRow base 73 7 (.slice A l.length c) l.length (xsE l)) := Lib.hid (fun o => ownT_below h ((Below.refl _ _).alloc (Nat.le_refl _) o))
  obtain ⟨n, hn⟩ : ∃ n, l.length = n := ⟨_, rfl⟩
  have e1 : IntKind.i64.wrap ((n : Int) - 1) = (n : Int) - 1 := IntWalk.i64_in _ (by omega)
  have HN := Lib.hid hn
  have hn2 : n ≤ 200000 := by omega
  clear h
  rw [hn] at HOw ⊢
  clear hn hl
  go_enter Try.func55, Try.ntmps55
  go_wp2_with (at_builtin; refine wpList_append_own_at _ rfl _ _ 60 rfl base 73 i0 (.agg #[.int .i64 0, .int .i64 0, .int .i64 0, .string ByteArray.empty, .int .i64 0, .int .i64 0, .int .i64 0]) 7 64 Try.underlying60 HInf.out.1 HInf.out.2.1 HInf.out.2.2.1 HInf.out.2.2.2 rfl (by omega) (.slice A n c) n _ (by rfl) (HOw.out _) ⟨w.heap.size, 0, none⟩ 1 1 [.int .i64 kind, .int .i64 0, .int .i64 0, .string ByteArray.empty, .int .i64 a, .int .i64 ((n : Int) - 1), .int .i64 at_] (by rfl) rfl (tok_bd w #[.int .i64 kind, .int .i64 0, .int .i64 0, .string ByteArray.empty, .int .i64 a, .int .i64 ((n : Int) - 1), .int .i64 at_] 73) (by simp [Value.oneCell']) (by unfold maxLen; omega) (by omega) (by simp; omega) ?_; intro v' w2 hown hg2 hnil hat; have HW := Lib.hid (And.intro hown (And.intro hg2 hat)); clear hown hg2 hnil hat; obtain ⟨va, rfl⟩ : ∃ va : Value, va = v' := ⟨_, rfl⟩)
  go_ret
  have hnn := HN.out
  subst hnn
  obtain ⟨A2, c2, rfl, ho, hf, hk⟩ := H.out.snoc (x := nodeP kind a ((l.length : Int) - 1) at_) (Below.refl _ _) HW.out.1 HW.out.2.1 HW.out.2.2
  exact ⟨A2, c2, rfl, ho, hf, hk⟩
/-- The signs and kinds of a level lie in two new rows. -/
def LevAt (m : Nat) (b1 b2 : Nat) (w : World) : Prop :=
  b1 < w.heap.size ∧ b2 < w.heap.size ∧ ∀ j s k, (levelP m)[j]? = some (s, k) → w.cell? ⟨b1, j, none⟩ = some (.string ⟨s.toArray⟩) ∧ w.cell? ⟨b2, j, none⟩ = some (.int .i64 k)
set_option maxHeartbeats 1600000 in
theorem level_c (m : Nat) (hm : m < 4) (w : World) :
    Calls Try.prog 54 #[.int .i64 (m : Int)] w fun e w' => ∃ b1 b2 c1 c2, e = .returned (.tuple #[.slice (some ⟨b1, 0, none⟩) (levelP m).length c1, .slice (some ⟨b2, 0, none⟩) (levelP m).length c2]) ∧ w.heap.size ≤ b1 ∧ w.heap.size ≤ b2 ∧ LevAt m b1 b2 w' ∧ Below w.heap.size w w' := by
  have key : ∀ (l : List (List UInt8 × Int)) (W W' : World), W' = (W.alloc (strB (l.map fun x => (⟨x.1.toArray⟩ : ByteArray)))).alloc (.cells (l.map fun x => Value.int .i64 x.2).toArray 3) → ∀ j s k, l[j]? = some (s, k) → W'.cell? ⟨W.heap.size, j, none⟩ = some (.string ⟨s.toArray⟩) ∧ W'.cell? ⟨W.heap.size + 1, j, none⟩ = some (.int .i64 k) := by
    intro l W W' e j s k hj
    have hjl := (List.getElem?_eq_some_iff.1 hj).1
    subst e
    constructor
    · have h1 := strB_cell (l.map fun x => (⟨x.1.toArray⟩ : ByteArray)) W j (by simpa using hjl)
      rw [Nat.zero_add] at h1
      have h2 := (Below.refl (W.alloc (strB (l.map fun x => (⟨x.1.toArray⟩ : ByteArray)))).heap.size _).alloc (Nat.le_refl _) (.cells (l.map fun x => Value.int .i64 x.2).toArray 3)
      rw [h2.cell (p := ⟨W.heap.size, j, none⟩) (by simp), h1]
      simp [List.getD, hj]
    · have h1 := heap_alloc_new (W.alloc (strB (l.map fun x => (⟨x.1.toArray⟩ : ByteArray)))) (.cells (l.map fun x => Value.int .i64 x.2).toArray 3)
      rw [show (W.alloc (strB (l.map fun x => (⟨x.1.toArray⟩ : ByteArray)))).heap.size = W.heap.size + 1 by simp] at h1
      rw [cell_of_row _ _ _ _ _ _ h1]
      simp [hj]
  have HK := Lib.hid key
  clear key
  rcases (by omega : m = 0 ∨ m = 1 ∨ m = 2 ∨ m = 3) with rfl | rfl | rfl | rfl
  all_goals (go_enter Try.func54, Try.ntmps54; go_wp2; go_ret2; exact ⟨w.heap.size, w.heap.size + 1, _, _, rfl, Nat.le_refl _, by omega, ⟨by first | (simp; done) | (simp; omega), by first | (simp; done) | (simp; omega), HK.out (levelP _) w _ rfl⟩, (by repeat' (first | exact Below.refl _ _ | (refine Below.alloc ?_ ?_ _) | (refine Below.setCell ?_ ?_ _) | (refine Below.drew ?_) | (refine below_next ?_ ?_ (by assumption)) | omega | (simp; done) | (simp; omega)))⟩)
end Go.Proofs.Ytnnhdkchdjddkaa.C
