/- l16.awake: walk. -/
import Derived.Test.YtnopjijhbflfdaaZBuild
namespace Go.Proofs.Ytnopjijhbflfdaa.C
open Go.RowKit
set_option linter.unusedSimpArgs false
set_option linter.unusedVariables false
def awkM : Z.M := Z.upd (Z.upd blankM 1 2 1) 2 3 2
theorem awk_ok : Z.okM (Z.closeM (Z.clampM awkM) 4) 4 = true := by decide +kernel
theorem awk_3 : Z.closeM (Z.clampM awkM) 4 1 3 = 3 := by decide +kernel
set_option maxRecDepth 100000 in
set_option maxHeartbeats 3200000 in
theorem awake16_c (w : World) : Calls Try.prog 11 #[] w (BoolPost true w) := by
  go_enter Try.func11, Try.ntmps11
  go_upto_region 2 with (go_at_call 36; refine (blank_c 3 _ (by omega)).mono ?_; rintro e w1 ⟨B, R, C, cap, rfl, hcap, hom, hb⟩)
  refine at_world (fun W => Hid (OM W w.heap.size B R C 4 blankM ∧ Below w.heap.size w W) ∧ w1.heap.size < W.heap.size ∧ (∀ o, W.cell? ⟨w1.heap.size, o, none⟩ = [Value.slice (some ⟨B, 0, none⟩) 4 cap][o]?)) ⟨Lib.hid ⟨hom.below (by repeat' (first | exact Below.refl _ _ | (refine Below.alloc ?_ ?_ _) | (refine Below.setCell ?_ ?_ _) | (refine Below.drew ?_) | (refine below_next ?_ ?_ (by assumption)) | omega | (simp; done) | (simp; omega))), hb.alloc hb.size _⟩, by simp, by intro o; simp [go_sem]⟩ ?_
  intro W0 ⟨HO, hsz, k0⟩
  have hBl := hom.hB.2
  have HR := Lib.hid (fun i (hi : i < 4) => (hom.hR i hi).2.1)
  obtain ⟨b, hbb⟩ : ∃ b, w1.heap.size = b := ⟨_, rfl⟩
  rw [hbb] at hsz k0 hBl HR
  simp only [hbb]
  clear hom hb hbb w1
  have c1 := HO.out.1.outer 1 (by omega)
  have c2 := HO.out.1.inner 1 2 (by omega) (by omega)
  have f2 := HO.out.1.frz 1 2 (by omega) (by omega)
  have hne1 := HR.out 1 (by omega)
  have hcap' : (4 : Int) ≤ (cap : Int) := by omega
  go_upto_region 3 with fail
  refine at_world (fun W => Hid (OM W w.heap.size B R C 4 (Z.upd blankM 1 2 1) ∧ Below w.heap.size w W) ∧ b < W.heap.size ∧ (∀ o, W.cell? ⟨b, o, none⟩ = [Value.slice (some ⟨B, 0, none⟩) 4 cap][o]?)) ⟨Lib.hid ⟨HO.out.1.set (by omega) (by omega) _, HO.out.2.setCell (HO.out.1.hR 1 (by omega)).1 _⟩, by simp; omega, fun o => by rw [World.cell?_setCell_far _ _ _ _ (by show R 1 ≠ b; omega)]; exact k0 o⟩ ?_
  intro W1 ⟨HO1, hsz1, k1⟩
  clear c1 c2 f2 hne1 k0 hsz HO
  have c1 := HO1.out.1.outer 2 (by omega)
  have c2 := HO1.out.1.inner 2 3 (by omega) (by omega)
  have f2 := HO1.out.1.frz 2 3 (by omega) (by omega)
  have hne1 := HR.out 2 (by omega)
  go_upto_region 4 with fail
  refine at_world (fun W => Hid (OM W w.heap.size B R C 4 awkM ∧ Below w.heap.size w W) ∧ b < W.heap.size ∧ (∀ o, W.cell? ⟨b, o, none⟩ = [Value.slice (some ⟨B, 0, none⟩) 4 cap][o]?)) ⟨Lib.hid ⟨HO1.out.1.set (by omega) (by omega) _, HO1.out.2.setCell (HO1.out.1.hR 2 (by omega)).1 _⟩, by simp; omega, fun o => by rw [World.cell?_setCell_far _ _ _ _ (by show R 2 ≠ b; omega)]; exact k1 o⟩ ?_
  intro W2 ⟨HO2, hsz2, k2⟩
  clear c1 c2 f2 hne1 k1 hsz1 HO1
  go_upto_region 5 with (go_at_call 12; refine (zclose_c ⟨B, 0, none⟩ 4 cap awkM _ (by omega) (by omega) HO2.out.1.rm).mono ?_; rintro e w3 ⟨hb3, ⟨ok, B', R', C', cap', rfl, hcap3, hom3⟩ | ⟨ok, rfl⟩⟩)
  · refine at_world (fun W => Hid (OM W W2.heap.size B' R' C' 4 (Z.closeM (Z.clampM awkM) 4) ∧ Below w.heap.size w W) ∧ w3.heap.size < W.heap.size ∧ (∀ o, W.cell? ⟨w3.heap.size, o, none⟩ = [Value.slice (some ⟨B', 0, none⟩) 4 cap'][o]?)) ⟨Lib.hid ⟨hom3.below (by repeat' (first | exact Below.refl _ _ | (refine Below.alloc ?_ ?_ _) | (refine Below.setCell ?_ ?_ _) | (refine Below.drew ?_) | (refine below_next ?_ ?_ (by assumption)) | omega | (simp; done) | (simp; omega))), (below_next HO2.out.2 HO2.out.2.size hb3).alloc (by have := HO2.out.2.size; have := hb3.size; omega) _⟩, by simp, by intro o; simp [go_sem]⟩ ?_
    intro W4 ⟨HO4, hsz4, k4⟩
    have c1 := HO4.out.1.outer 1 (by omega)
    have c2 := HO4.out.1.inner 1 3 (by omega) (by omega)
    rw [awk_3] at c2
    have hcap4 : (4 : Int) ≤ (cap' : Int) := by omega
    clear ok hom3 hb3
    go_wp2_with fail
    go_ret
    exact ⟨rfl, HO4.out.2⟩
  · rw [awk_ok] at ok; cases ok
end Go.Proofs.Ytnopjijhbflfdaa.C
