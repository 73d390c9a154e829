/- the reference's Block in range: a walk. -/
import Derived.Test.YtkgdogdallojlaaMem16
namespace Go.Proofs.Ytkgdogdallojlaa.C
open Go.RowKit
set_option linter.unusedSimpArgs false
set_option linter.unusedVariables false
set_option maxRecDepth 100000 in
set_option maxHeartbeats 3200000 in
theorem rblock_s (base p n : Nat) (L : Value) (ts : Nat → Int) (ad ln cp : Nat → Nat) (f : Nat → Nat → Int) (i : Nat) (w : World) (hm : MS w base p L n ts ad ln cp f) (hi : i < n) :
    Calls Try.prog 22 #[.pointer (some ⟨p, 0, none⟩), .int .i64 i] w (BlockPost (ts i) (ln i) (f i) w) := by
  have hl := hm.hA i hi
  obtain ⟨g, cap, rfl, hv, _⟩ := hm.view (by omega)
  obtain ⟨i0, hii, hz⟩ := Option.map_eq_some_iff.1 infoM
  simp only [Prod.mk.injEq] at hz
  have HI := Lib.hid (And.intro hii hz)
  clear hii hz
  have HL : Hid (1 ≤ ln i ∧ ln i ≤ 16) := Lib.hid ⟨hl.2.2.2.2.1, hl.2.2.2.2.2.1⟩
  have HV := Lib.hid hv
  clear hv hm hl
  have k0' : decide ((i : Int) < 0) = false := decide_eq_false (by omega)
  have g1 : decide (n ≤ i) = false := decide_eq_false (by omega)
  go_enter Try.func22, Try.ntmps22
  go_upto_region 1 with fail
  refine at_world (fun W => Hid (Below w.heap.size w W ∧ W.heap.size = w.heap.size + 1) ∧ (∀ o, W.cell? ⟨w.heap.size, o, none⟩ = [Value.int .i64 0, Value.slice none 0 0][o]?) ∧ (∀ o, W.frozen? ⟨w.heap.size, o, none⟩ = false)) ⟨Lib.hid ⟨(by repeat' (first | exact Below.refl _ _ | (refine Below.alloc ?_ ?_ _) | (refine Below.setCell ?_ ?_ _) | (refine Below.drew ?_) | (refine below_next ?_ ?_ (by assumption)) | omega | (simp; done) | (simp; omega))), by simp⟩, (by intro o; simp [go_sem]), (by intro o; simp [go_sem])⟩ ?_
  intro W0 ⟨HB0, k0, f0⟩
  have HV0 := Lib.hid (HV.out.below HB0.out.1)
  have c0 := HV0.out.cell
  obtain ⟨c1, c2⟩ := HV0.out.rows i hi
  have hk0 : (0 : Int) ≤ (i : Int) := by omega
  have hk1 : (i : Int) < (n : Int) := by omega
  go_upto_region 3 with fail
  obtain ⟨b0, hb0⟩ : ∃ b, w.heap.size = b := ⟨_, rfl⟩
  simp only [hb0] at k0 f0 ⊢
  have k00 := k0 0
  have k01 := k0 1
  simp at k00 k01
  have f00 := f0 0
  have f01 := f0 1
  have hsz : b0 < W0.heap.size := by have := HB0.out.2; omega
  have hpl : p < W0.heap.size := World.block_lt_of_cell? W0 _ c0
  have hgl : g < W0.heap.size := World.block_lt_of_cell? W0 _ c1
  have hpb : p ≠ b0 := fun e => by have := World.block_lt_of_cell? w _ HV.out.cell; have : p < w.heap.size := this; omega
  have hgb : g ≠ b0 := fun e => by have := World.block_lt_of_cell? w _ (HV.out.rows i hi).1; have : g < w.heap.size := this; omega
  have hpb' : b0 ≠ p := fun e => hpb e.symm
  have hgb' : b0 ≠ g := fun e => hgb e.symm
  clear k0 f0
  have HCW : Hid (∀ j u, ((List.range (ln i)).map fun j => Value.int .i64 (f i j))[j]? = some u → ((W0.alloc (.cells #[] 3)).drew).cell? ((⟨ad i, 0, none⟩ : Addr).add j) = some u) := Lib.hid (by
    intro j u hu
    have hj : j < ln i := by
      rcases Nat.lt_or_ge j (ln i) with h | h
      · exact h
      · simp [h] at hu
    simp [hj] at hu
    rw [← hu, m_plain]
    exact cell_later ((Below.refl W0.heap.size W0).alloc (Nat.le_refl _) (.cells #[] 3)).drew (HV0.out.inner i j hi hj))
  go_region_held3 (fun w' => w'.cell? ⟨p, 0, none⟩ = some (.slice (some ⟨g, 0, none⟩) n cap) ∧ w'.cell? ⟨g, i * 2, none⟩ = some (.int .i64 (ts i)) ∧ w'.cell? ⟨g, i * 2 + 1, none⟩ = some (.slice (some ⟨ad i, 0, none⟩) (ln i) (cp i))) (first | (exact ⟨cell_later hb1 c0, cell_later hb1 c1, cell_later hb1 c2⟩) | (refine ⟨?_, ?_, ?_⟩ <;> (rw [World.cell?_setCell_far _ _ _ _ (by assumption), World.cell?_setCell_far _ _ _ _ (by assumption)]; first | exact cell_later hb1 c0 | exact cell_later hb1 c1 | exact cell_later hb1 c2)) | (exact ⟨cell_later (by repeat' (first | exact Below.refl _ _ | (refine Below.alloc ?_ ?_ _) | (refine Below.setCell ?_ ?_ _) | (refine Below.drew ?_) | (refine below_next ?_ ?_ (by assumption)) | omega | (simp; done) | (simp; omega))) c0, cell_later (by repeat' (first | exact Below.refl _ _ | (refine Below.alloc ?_ ?_ _) | (refine Below.setCell ?_ ?_ _) | (refine Below.drew ?_) | (refine below_next ?_ ?_ (by assumption)) | omega | (simp; done) | (simp; omega))) c1, cell_later (by repeat' (first | exact Below.refl _ _ | (refine Below.alloc ?_ ?_ _) | (refine Below.setCell ?_ ?_ _) | (refine Below.drew ?_) | (refine below_next ?_ ?_ (by assumption)) | omega | (simp; done) | (simp; omega))) c2⟩) | go_keep) ((refine step_append_lies ((W0.alloc (.cells #[] 3)).drew) (by rfl) (.tmp 26) (.tmp 34) 22 (by rfl) W0.heap.size 3 i0 (.int .i64 0) 1 8 Try.underlying22 HI.out.1 HI.out.2.1 HI.out.2.2.1 HI.out.2.2.2 rfl (by omega) (.slice (some ⟨W0.heap.size, 0, none⟩) 0 0) 0 [] (by rfl) (own_empty W0 3 1) ⟨ad i, 0, none⟩ (ln i) (cp i) ((List.range (ln i)).map fun j => Value.int .i64 (f i j)) (by rfl) (by simp) HCW.out (by simp [Value.oneCell']) HL.out.1 (by unfold maxLen; have := HL.out.2; omega) (by have := HL.out.2; omega) (by simp) (W0.heap.size + 1) (by simp) ?_; intro gn cn w1 hown hg hat hlt; have hb1 : Below W0.heap.size W0 w1 := (((Below.refl _ _).alloc (Nat.le_refl _) _).drew.grown hg (by simp) (by rintro q hq; simp [Value.ownBlock] at hq; omega)); have q3 := cell_later hb1 k00; have q4 := cell_later hb1 k01; have q5 := ((block_keep hb1 hsz).2 0).trans f00; have q6 := ((block_keep hb1 hsz).2 1).trans f01))
  have hrn : RowNew W0 gn cn (ln i) (f i) w1 := by
    simp only [Nat.zero_add, List.nil_append] at hown
    obtain ⟨g9, c9, e9, r1, r2, r3, r4, r5⟩ := own_row hown HL.out.1
    simp at e9
    obtain ⟨rfl, rfl⟩ := e9
    exact ⟨r1, r2, r3, r4, fun j _ => r5 j, hb1⟩
  have HS : Hid (RowNew w gn cn (ln i) (f i) ((w1.setCell ⟨b0, 0, none⟩ (.int .i64 (ts i))).setCell ⟨b0, 1, none⟩ (.slice (some ⟨gn, 0, none⟩) (ln i) cn))) := Lib.hid (hrn.stored HB0.out.1 hb0 hsz _ _)
  have s0 : ((w1.setCell ⟨b0, 0, none⟩ (.int .i64 (ts i))).setCell ⟨b0, 1, none⟩ (.slice (some ⟨gn, 0, none⟩) (ln i) cn)).cell? ⟨b0, 0, none⟩ = some (.int .i64 (ts i)) := by rw [World.cell?_setCell_other _ _ _ _ (by simp)]; exact World.cell?_setCell_same _ _ _ q3
  have s1 : ((w1.setCell ⟨b0, 0, none⟩ (.int .i64 (ts i))).setCell ⟨b0, 1, none⟩ (.slice (some ⟨gn, 0, none⟩) (ln i) cn)).cell? ⟨b0, 1, none⟩ = some (.slice (some ⟨gn, 0, none⟩) (ln i) cn) := World.cell?_setCell_same _ _ _ (by rw [World.cell?_setCell_other _ _ _ _ (by simp)]; exact q4)
  refine at_normal (fun W => Hid (RowNew w gn cn (ln i) (f i) W) ∧ W.cell? ⟨b0, 0, none⟩ = some (.int .i64 (ts i)) ∧ W.cell? ⟨b0, 1, none⟩ = some (.slice (some ⟨gn, 0, none⟩) (ln i) cn)) ⟨HS, s0, s1⟩ ?_
  clear HS s0 s1 q3 q4 q5 q6 hrn k00 k01 f00 f01 c0 c1 c2 hown hg hat hlt hb1
  intro W ⟨HS, s0, s1⟩
  go_wp2_with fail
  exact bodyPost_ret (v := .tuple #[.agg #[.int .i64 (ts i), .slice (some ⟨gn, 0, none⟩) (ln i) cn], .bool true]) (by simp [results, Try.results22, go_sem, *]) rfl ⟨gn, cn, rfl, HS.out⟩
end Go.Proofs.Ytkgdogdallojlaa.C
