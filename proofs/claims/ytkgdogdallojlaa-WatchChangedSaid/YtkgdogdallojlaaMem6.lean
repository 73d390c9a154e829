/- memory.Copy: a walk. -/
import Derived.Test.YtkgdogdallojlaaMem5
namespace Go.Proofs.Ytkgdogdallojlaa.C
open Go.RowKit
set_option linter.unusedSimpArgs false
set_option linter.unusedVariables false
/-- A copy of which k blocks have arrays of their own. -/
structure CI (w : World) (B p g cap n k : Nat) (ts : Nat → Int) (ad0 ad ln cp : Nat → Nat) (f : Nat → Nat → Int) : Prop where
  hp : B ≤ p ∧ p < w.heap.size
  hg : B ≤ g ∧ g < w.heap.size ∧ g ≠ p
  cell : w.cell? ⟨p, 0, none⟩ = some (.slice (some ⟨g, 0, none⟩) n cap)
  hcap : n ≤ cap
  rows : ∀ i, i < n → w.cell? ⟨g, i * 2, none⟩ = some (.int .i64 (ts i)) ∧ w.cell? ⟨g, i * 2 + 1, none⟩ = some (.slice (some ⟨ad i, 0, none⟩) (ln i) (cp i))
  frz : ∀ j, w.frozen? ⟨g, j, none⟩ = false
  new : ∀ i, i < k → B ≤ ad i ∧ ad i < w.heap.size ∧ ad i ≠ g ∧ ad i ≠ p
  low : ∀ i, i < n → ad0 i < B
  old : ∀ i, k ≤ i → i < n → ad i = ad0 i
  inner : ∀ i j, i < n → j < ln i → w.cell? ⟨ad i, j, none⟩ = some (.int .i64 (f i j))
theorem CI.step {w w1 : World} {B p g cap n k : Nat} {ts : Nat → Int} {ad0 ad ln cp : Nat → Nat} {f : Nat → Nat → Int} {gn cn : Nat} (h : CI w B p g cap n k ts ad0 ad ln cp f) (hk : k < n) (hr : RowNew w gn cn (ln k) (f k) w1) :
    CI (w1.setCell ⟨g, k * 2 + 1, none⟩ (.slice (some ⟨gn, 0, none⟩) (ln k) cn)) B p g cap n (k + 1) ts ad0 (fun i => if i = k then gn else ad i) ln (fun i => if i = k then cn else cp i) f := by
  obtain ⟨r1, r2, r3, r4, r5, hb⟩ := hr
  have hsz : (w1.setCell ⟨g, k * 2 + 1, none⟩ (.slice (some ⟨gn, 0, none⟩) (ln k) cn)).heap.size = w1.heap.size := by simp
  have hs1 := hb.size
  have hp := h.hp
  have hg := h.hg
  have k1 : ∀ b, b ≠ g → (w1.setCell ⟨g, k * 2 + 1, none⟩ (.slice (some ⟨gn, 0, none⟩) (ln k) cn)).heap[b]? = w1.heap[b]? := fun b hb => Below.heap_setCell w1 ⟨g, k * 2 + 1, none⟩ _ b hb
  have k2 : ∀ b, b < w.heap.size → b ≠ g → (w1.setCell ⟨g, k * 2 + 1, none⟩ (.slice (some ⟨gn, 0, none⟩) (ln k) cn)).heap[b]? = w.heap[b]? := fun b hl hne => (k1 b hne).trans (hb.block b hl)
  have hex : w1.cell? ⟨g, k * 2 + 1, none⟩ = some (.slice (some ⟨ad k, 0, none⟩) (ln k) (cp k)) := (hb.cell (p := ⟨g, k * 2 + 1, none⟩) hg.2.1).trans (h.rows k hk).2
  refine ⟨⟨hp.1, by omega⟩, ⟨hg.1, by omega, hg.2.2⟩, (m_kept (p := ⟨p, 0, none⟩) (k2 p hp.2 (fun e => hg.2.2 e.symm))).trans h.cell, h.hcap, fun i hi => ⟨?_, ?_⟩, fun j => ?_, fun i hi => ?_, h.low, fun i h1 h2 => ?_, fun i j hi hj => ?_⟩
  · rw [World.cell?_setCell_other _ _ _ _ (fun q => by injection q with _ q2; omega), hb.cell (p := ⟨g, i * 2, none⟩) hg.2.1]
    exact (h.rows i hi).1
  · by_cases e : i = k
    · subst e
      simp only [if_true]
      exact World.cell?_setCell_same _ _ _ hex
    · simp only [e, if_false]
      rw [World.cell?_setCell_other _ _ _ _ (fun q => by injection q with _ q2; omega), hb.cell (p := ⟨g, i * 2 + 1, none⟩) hg.2.1]
      exact (h.rows i hi).2
  · have : w1.frozen? ⟨g, j, none⟩ = false := (hb.frozen (p := ⟨g, j, none⟩) hg.2.1).trans (h.frz j)
    simpa [go_sem] using this
  · by_cases e : i = k
    · simp only [e, if_true]
      exact ⟨by omega, by omega, by omega, by omega⟩
    · simp only [e, if_false]
      have := h.new i (by omega)
      exact ⟨this.1, by omega, this.2.2⟩
  · have e : i ≠ k := by omega
    simp only [e, if_false]
    exact h.old i (by omega) h2
  · by_cases e : i = k
    · subst e
      simp only [if_true]
      exact (m_kept (p := ⟨gn, j, none⟩) (k1 gn (by omega))).trans (r4 j hj)
    · simp only [e, if_false]
      have hne : ad i ≠ g := by
        rcases Nat.lt_or_ge i k with hl | hl
        · exact (h.new i hl).2.2.1
        · have := h.old i hl hi
          have := h.low i hi
          omega
      have hlt : ad i < w.heap.size := World.block_lt_of_cell? w _ (h.inner i j hi hj)
      exact (m_kept (p := ⟨ad i, j, none⟩) (k2 (ad i) hlt hne)).trans (h.inner i j hi hj)
theorem RowNew.undrew {w w' : World} {g cap n : Nat} {f : Nat → Int} (h : RowNew w.drew g cap n f w') : RowNew w g cap n f w' := by
  obtain ⟨h1, h2, h3, h4, h5, b⟩ := h
  exact ⟨h1, h2, h3, h4, h5, ⟨b.os, b.tape, b.output, b.size, b.block⟩⟩
/-- A copy: another memory, apart from what was. -/
def Copied (n : Nat) (ts : Nat → Int) (ln : Nat → Nat) (f : Nat → Nat → Int) (w : World) (e : Ending) (w' : World) : Prop :=
  ∃ p g cap ad cp, e = .returned (.pointer (some ⟨p, 0, none⟩)) ∧ MV w' p g n cap ts ad ln cp f ∧ w.heap.size ≤ p ∧ w.heap.size ≤ g ∧ (∀ i, i < n → w.heap.size ≤ ad i) ∧ p < w'.heap.size ∧ g < w'.heap.size ∧ (∀ i, i < n → ad i < w'.heap.size) ∧ Below w.heap.size w w'
theorem copy_keep {w w1 : World} {B p g cap n k : Nat} {ts : Nat → Int} {ad0 ad ln cp : Nat → Nat} {f : Nat → Nat → Int} (h : CI w B p g cap n k ts ad0 ad ln cp f) (hk : k < n) (hb : Below w.heap.size w w1) :
    w1.cell? ⟨p, 0, none⟩ = some (.slice (some ⟨g, 0, none⟩) n cap) ∧ w1.cell? ⟨g, k * 2 + 1, none⟩ = some (.slice (some ⟨ad k, 0, none⟩) (ln k) (cp k)) ∧ w1.frozen? ⟨g, k * 2 + 1, none⟩ = false :=
  ⟨(hb.cell (p := ⟨p, 0, none⟩) h.hp.2).trans h.cell, (hb.cell (p := ⟨g, k * 2 + 1, none⟩) h.hg.2.1).trans (h.rows k hk).2, (hb.frozen (p := ⟨g, k * 2 + 1, none⟩) h.hg.2.1).trans (h.frz _)⟩
set_option maxRecDepth 100000 in
set_option maxHeartbeats 3200000 in
theorem copy_c (p g n cap : Nat) (ts : Nat → Int) (ad ln cp : Nat → Nat) (f : Nat → Nat → Int) (w : World) (hv : MV w p g n cap ts ad ln cp f) (hn : 1 ≤ n) (hn2 : n ≤ 1000) (hl : ∀ i, i < n → 1 ≤ ln i ∧ ln i ≤ 16) :
    Calls Try.prog 13 #[.pointer (some ⟨p, 0, none⟩)] w (Copied n ts ln f w) := by
  have HV := Lib.hid hv
  have HL := Lib.hid hl
  have c0 := hv.cell
  clear hv hl
  go_enter Try.func13, Try.ntmps13
  go_upto_region 4 with (go_at_call 24; refine (cloneB_c g n cap ts ad ln cp _ hn hn2 (fun i hi => HV.out.rows i hi)).mono ?_; rintro e w1 ⟨g', c', rfl, q1, q2, q3, q4, q5, q6⟩)
  refine at_world (fun W => ∃ p', p' = w1.heap.size ∧ W.cell? ⟨p', 0, none⟩ = some (.slice (some ⟨g', 0, none⟩) n c') ∧ Hid (Below w.heap.size w W ∧ CI W w.heap.size p' g' c' n 0 ts ad ad ln cp f)) ⟨_, rfl, by simp [go_sem], Lib.hid ⟨q6.alloc q6.size _, ?_⟩⟩ ?_
  · have hsz : (w1.alloc (.cells #[.slice (some ⟨g', 0, none⟩) n c'] 50)).heap.size = w1.heap.size + 1 := by simp
    have kc := fun (p : Addr) (hp : p.block < w1.heap.size) => ((Below.refl _ w1).alloc (Nat.le_refl _) (.cells #[.slice (some ⟨g', 0, none⟩) n c'] 50)).cell (p := p) hp
    have kf := fun (p : Addr) (hp : p.block < w1.heap.size) => ((Below.refl _ w1).alloc (Nat.le_refl _) (.cells #[.slice (some ⟨g', 0, none⟩) n c'] 50)).frozen (p := p) hp
    refine ⟨⟨q6.size, by omega⟩, ⟨q1, by omega, by omega⟩, by simp [go_sem], q3, fun i hi => ⟨(kc ⟨g', i * 2, none⟩ q2).trans (q4 i hi).1, (kc ⟨g', i * 2 + 1, none⟩ q2).trans (q4 i hi).2⟩, fun j => (kf ⟨g', j, none⟩ q2).trans (q5 j), fun i hi => absurd hi (by omega), fun i hi => ?_, fun i _ _ => rfl, fun i j hi hj => ?_⟩
    · exact World.block_lt_of_cell? w _ (HV.out.inner i 0 hi (by have := (HL.out i hi).1; omega))
    · have hlt := World.block_lt_of_cell? w _ (HV.out.inner i j hi hj)
      exact (kc ⟨ad i, j, none⟩ (Nat.lt_of_lt_of_le hlt q6.size)).trans ((q6.cell (p := ⟨ad i, j, none⟩) hlt).trans (HV.out.inner i j hi hj))
  intro W0 ⟨p', hpe, k0, H0⟩
  simp only [← hpe]
  clear hpe q1 q2 q3 q4 q5 q6 c0 w1
  go_wp2_with fail
  go_loopw [19] (fun i wr => ∃ (k : Nat) (ad' cp' : Nat → Nat), k ≤ n ∧ i = .int .i64 k ∧ CI wr w.heap.size p' g' c' n k ts ad ad' ln cp' f ∧ Below w.heap.size w wr) (fun i _ => n - (intOf i).toNat)
  case atStart => exact ⟨0, ad, cp, by omega, rfl, H0.out.2, H0.out.1⟩
  case round =>
    obtain ⟨k, ad', cp', hk, rfl, hci, hb⟩ := hrel
    have c0 := hci.cell
    by_cases hlt : k < n
    · have HC := Lib.hid hci
      have HB := Lib.hid hb
      obtain ⟨c1, c2⟩ := hci.rows k hlt
      have f2 := hci.frz (k * 2 + 1)
      have HR := Lib.hid (fun j (hj : j < ln k) => hci.inner k j hlt hj)
      have HK := Lib.hid (HL.out k hlt)
      have hk0 : (0 : Int) ≤ (k : Int) := by omega
      have hk1 : (k : Int) < (n : Int) := by omega
      have hs := hb.size
      clear hci hb k0 c1
      obtain ⟨wo, rfl⟩ : ∃ wo : World, wo = wr := ⟨_, rfl⟩
      have CL := fun (W : World) (h : ∀ j, j < ln k → W.cell? ⟨ad' k, j, none⟩ = some (.int .i64 (f k j))) => clone_c ⟨ad' k, 0, none⟩ (ln k) (cp' k) (f k) W HK.out.1 (by have := HK.out.2; omega) (fun j hj => by rw [m_plain]; exact h j hj)
      go_upto_region 7 with fail
      go_region_with (go_at_call 25; refine (CL wo.drew HR.out).mono ?_; rintro e w1 ⟨gn, cn, rfl, hrn0⟩; have hrn := hrn0.undrew; clear hrn0; have q3 := copy_keep HC.out hlt hrn.2.2.2.2.2; have q0 := q3.1; have q1 := q3.2.1; have q2 := q3.2.2; clear q3)
      all_goals have HS : Hid (CI (w1.setCell ⟨g', k * 2 + 1, none⟩ (.slice (some ⟨gn, 0, none⟩) (ln k) cn)) w.heap.size p' g' c' n (k + 1) ts ad (fun i => if i = k then gn else ad' i) ln (fun i => if i = k then cn else cp' i) f ∧ Below w.heap.size w (w1.setCell ⟨g', k * 2 + 1, none⟩ (.slice (some ⟨gn, 0, none⟩) (ln k) cn))) := Lib.hid ⟨HC.out.step hlt hrn, (HB.out.trans (hrn.2.2.2.2.2.mono hs)).setCell (p := ⟨g', k * 2 + 1, none⟩) HC.out.hg.1 _⟩
      all_goals refine at_normal (fun W => Hid (CI W w.heap.size p' g' c' n (k + 1) ts ad (fun i => if i = k then gn else ad' i) ln (fun i => if i = k then cn else cp' i) f ∧ Below w.heap.size w W)) HS ?_
      all_goals clear HS q0 q1 q2 hrn
      all_goals intro W HS
      all_goals go_wp2_with fail
      all_goals exact ⟨⟨k + 1, _, _, by omega, by go_num, HS.out.1, HS.out.2⟩, by simp [intOf]; omega⟩
    · obtain rfl : k = n := by omega
      have HC := Lib.hid hci
      have HB := Lib.hid hb
      clear hci hb hk hlt
      go_wp2_with fail
      go_ret
      refine ⟨p', g', c', ad', cp', rfl, ⟨HC.out.cell, HC.out.hcap, HC.out.rows, HC.out.inner⟩, HC.out.hp.1, HC.out.hg.1, fun i hi => (HC.out.new i hi).1, HC.out.hp.2, HC.out.hg.2.1, fun i hi => (HC.out.new i hi).2.1, HB.out⟩
end Go.Proofs.Ytkgdogdallojlaa.C
