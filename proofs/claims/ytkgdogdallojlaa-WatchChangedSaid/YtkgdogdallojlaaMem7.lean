/- memory.Block: a walk. -/
import Derived.Test.YtkgdogdallojlaaMem6
namespace Go.Proofs.Ytkgdogdallojlaa.C
open Go.RowKit
set_option linter.unusedSimpArgs false
set_option linter.unusedVariables false
theorem MV.below {w w' : World} {p g n cap : Nat} {ts : Nat → Int} {ad ln cp : Nat → Nat} {f : Nat → Nat → Int} (hv : MV w p g n cap ts ad ln cp f) (hb : Below w.heap.size w w') : MV w' p g n cap ts ad ln cp f :=
  ⟨cell_later hb hv.cell, hv.hcap, fun i hi => ⟨cell_later hb (hv.rows i hi).1, cell_later hb (hv.rows i hi).2⟩, fun i j hi hj => cell_later hb (hv.inner i j hi hj)⟩
def BlockPost (t : Int) (l : Nat) (f : Nat → Int) (w : World) (e : Ending) (w' : World) : Prop :=
  ∃ g c, e = .returned (.tuple #[.agg #[.int .i64 t, .slice (some ⟨g, 0, none⟩) l c], .bool true]) ∧ RowNew w g c l f w'
theorem block_keep {W0 w1 : World} {b : Nat} (hb : Below W0.heap.size W0 w1) (h : b < W0.heap.size) : (∀ o, w1.cell? ⟨b, o, none⟩ = W0.cell? ⟨b, o, none⟩) ∧ ∀ o, w1.frozen? ⟨b, o, none⟩ = W0.frozen? ⟨b, o, none⟩ :=
  ⟨fun o => hb.cell (p := ⟨b, o, none⟩) h, fun o => hb.frozen (p := ⟨b, o, none⟩) h⟩
theorem RowNew.stored {w W0 w1 : World} {gn cn l b0 : Nat} {f : Nat → Int} (hrn : RowNew W0 gn cn l f w1) (hb : Below w.heap.size w W0) (hb0 : w.heap.size = b0) (hsz : b0 < W0.heap.size) (u v : Value) :
    RowNew w gn cn l f ((w1.setCell ⟨b0, 0, none⟩ u).setCell ⟨b0, 1, none⟩ v) := by
  obtain ⟨h1, h2, h3, h4, h5, h6⟩ := hrn
  have hne : gn ≠ b0 := by omega
  have k1 := (Below.heap_setCell (w1.setCell ⟨b0, 0, none⟩ u) ⟨b0, 1, none⟩ v gn hne).trans (Below.heap_setCell w1 ⟨b0, 0, none⟩ u gn hne)
  refine ⟨by omega, by simpa using h2, h3, fun j hj => (m_kept (p := ⟨gn, j, none⟩) k1).trans (h4 j hj), fun j hj => (m_frz (p := ⟨gn, j, none⟩) k1).trans (h5 j hj), ?_⟩
  exact ((hb.trans (h6.mono hb.size)).setCell (p := ⟨b0, 0, none⟩) (by show w.heap.size ≤ b0; omega) _).setCell (p := ⟨b0, 1, none⟩) (by show w.heap.size ≤ b0; omega) _
set_option maxRecDepth 100000 in
set_option maxHeartbeats 3200000 in
theorem block_c (p g n cap : Nat) (ts : Nat → Int) (ad ln cp : Nat → Nat) (f : Nat → Nat → Int) (i : Nat) (w : World) (hv : MV w p g n cap ts ad ln cp f) (hi : i < n) (hl : 1 ≤ ln i ∧ ln i ≤ 16) :
    Calls Try.prog 19 #[.pointer (some ⟨p, 0, none⟩), .int .i64 i] w (BlockPost (ts i) (ln i) (f i) w) := by
  have HA : ∀ W : World, MV W p g n cap ts ad ln cp f → Calls Try.prog 26 #[.pointer (some ⟨p, 0, none⟩), .int .i64 i, .int .i64 0] W fun e w' => e = .returned (.bool true) ∧ W = w' := fun W hW => by
    have := has_c p g n cap ts ad ln cp f i 0 W hW
    rwa [show hasM n ln (i : Int) 0 = true from decide_eq_true ⟨by omega, by omega, by omega, by have := hl.1; simp; omega⟩] at this
  have HV := Lib.hid hv
  clear hv
  go_enter Try.func19, Try.ntmps19
  go_upto_region 1 with fail
  refine at_world (fun W => Hid (Below w.heap.size w W ∧ W.heap.size = w.heap.size + 1) ∧ (∀ o, W.cell? ⟨w.heap.size, o, none⟩ = [Value.int .i64 0, Value.slice none 0 0][o]?) ∧ (∀ o, W.frozen? ⟨w.heap.size, o, none⟩ = false)) ⟨Lib.hid ⟨(by repeat' (first | exact Below.refl _ _ | (refine Below.alloc ?_ ?_ _) | (refine Below.setCell ?_ ?_ _) | (refine Below.drew ?_) | (refine below_next ?_ ?_ (by assumption)) | omega | (simp; done) | (simp; omega))), by simp⟩, (by intro o; simp [go_sem]), (by intro o; simp [go_sem])⟩ ?_
  intro W0 ⟨HB0, k0, f0⟩
  have HV0 := Lib.hid (HV.out.below HB0.out.1)
  have hA0 := HA W0 HV0.out
  have HA0 := Lib.hid hA0
  clear hA0 HA
  have c0 := HV0.out.cell
  obtain ⟨c1, c2⟩ := HV0.out.rows i hi
  have HR := Lib.hid (fun j (hj : j < ln i) => HV0.out.inner i j hi hj)
  have hk0 : (0 : Int) ≤ (i : Int) := by omega
  have hk1 : (i : Int) < (n : Int) := by omega
  have CL := fun (W : World) (h : ∀ j, j < ln i → W.cell? ⟨ad i, j, none⟩ = some (.int .i64 (f i j))) => clone_c ⟨ad i, 0, none⟩ (ln i) (cp i) (f i) W hl.1 (by omega) (fun j hj => by rw [m_plain]; exact h j hj)
  go_upto_region 3 with ((go_at_call 26; refine (HA0.out).mono ?_; rintro e w' ⟨rfl, rfl⟩))
  obtain ⟨b0, hb0⟩ : ∃ b, w.heap.size = b := ⟨_, rfl⟩
  simp only [hb0] at k0 f0 ⊢
  have k00 := k0 0
  have k01 := k0 1
  simp at k00 k01
  have f00 := f0 0
  have f01 := f0 1
  have hsz : b0 < W0.heap.size := by have := HB0.out.2; omega
  clear k0 f0
  go_region_with (go_at_call 25; refine (CL W0.drew HR.out).mono ?_; rintro e w1 ⟨gn, cn, rfl, hrn0⟩; have hrn := hrn0.undrew; clear hrn0; have q0 := cell_later hrn.2.2.2.2.2 c0; have q1 := cell_later hrn.2.2.2.2.2 c1; have q2 := cell_later hrn.2.2.2.2.2 c2; have q3 := cell_later hrn.2.2.2.2.2 k00; have q4 := cell_later hrn.2.2.2.2.2 k01; have q5 := ((block_keep hrn.2.2.2.2.2 hsz).2 0).trans f00; have q6 := ((block_keep hrn.2.2.2.2.2 hsz).2 1).trans f01)
  all_goals have HS : Hid (RowNew w gn cn (ln i) (f i) ((w1.setCell ⟨b0, 0, none⟩ (.int .i64 (ts i))).setCell ⟨b0, 1, none⟩ (.slice (some ⟨gn, 0, none⟩) (ln i) cn))) := Lib.hid (hrn.stored HB0.out.1 hb0 hsz _ _)
  all_goals have s0 : ((w1.setCell ⟨b0, 0, none⟩ (.int .i64 (ts i))).setCell ⟨b0, 1, none⟩ (.slice (some ⟨gn, 0, none⟩) (ln i) cn)).cell? ⟨b0, 0, none⟩ = some (.int .i64 (ts i)) := by rw [World.cell?_setCell_other _ _ _ _ (by simp)]; exact World.cell?_setCell_same _ _ _ q3
  all_goals have s1 : ((w1.setCell ⟨b0, 0, none⟩ (.int .i64 (ts i))).setCell ⟨b0, 1, none⟩ (.slice (some ⟨gn, 0, none⟩) (ln i) cn)).cell? ⟨b0, 1, none⟩ = some (.slice (some ⟨gn, 0, none⟩) (ln i) cn) := World.cell?_setCell_same _ _ _ (by rw [World.cell?_setCell_other _ _ _ _ (by simp)]; exact q4)
  all_goals refine at_normal (fun W => Hid (RowNew w gn cn (ln i) (f i) W) ∧ W.cell? ⟨b0, 0, none⟩ = some (.int .i64 (ts i)) ∧ W.cell? ⟨b0, 1, none⟩ = some (.slice (some ⟨gn, 0, none⟩) (ln i) cn)) ⟨HS, s0, s1⟩ ?_
  all_goals clear HS s0 s1 q0 q1 q2 q3 q4 q5 q6 hrn k00 k01 f00 f01 c0 c1 c2 CL
  all_goals intro W ⟨HS, s0, s1⟩
  all_goals go_wp2_with fail
  all_goals exact bodyPost_ret (v := .tuple #[.agg #[.int .i64 (ts i), .slice (some ⟨gn, 0, none⟩) (ln i) cn], .bool true]) (by simp [results, Try.results19, go_sem, *]) rfl ⟨gn, cn, rfl, HS.out⟩
end Go.Proofs.Ytkgdogdallojlaa.C
