/- state.made, state.Types, r1.Digits (of a digit), l18.Layout: walks. -/
import Derived.Test.YtdmphpkiclfhhaaSt2
import Derived.Deep.RegionHeld3
namespace Go.Proofs.Ytdmphpkiclfhhaa.C
open Go.RowKit
set_option linter.unusedSimpArgs false
set_option linter.unusedVariables false
attribute [local go_sem] fieldItv0 fieldItv1
def MadeSt (ZA : Option Addr) (n zc m : Nat) (ln : Nat → Nat) (rr : Nat → Nat → Int × Int) (w : World) (e : Ending) (w' : World) : Prop :=
  ∃ B, e = .returned (.agg #[.bool false, .slice ZA n zc, .slice B m m]) ∧ CCk w w' B m ln rr ∧ Below w.heap.size w w'
set_option maxRecDepth 100000 in
set_option maxHeartbeats 3200000 in
theorem made_ok (ZA B : Option Addr) (n zc m cap : Nat) (ln : Nat → Nat) (rr : Nat → Nat → Int × Int) (w : World) (hm : m ≤ 1000) (hr : CC w B m ln rr) (he : anyEE ln rr m = false) :
    Calls Try.prog 52 #[.agg #[.slice ZA n zc], .bool true, .slice B m cap] w (MadeSt ZA n zc m ln rr w) := by
  have HR := Lib.hid hr
  clear hr
  go_enter Try.func52, Try.ntmps52
  go_upto_region 1 with fail
  refine at_world (fun W => Hid (Below w.heap.size w W ∧ W.heap.size = w.heap.size + 1 + 1 ∧ (∀ o, W.cell? ⟨w.heap.size + 1, o, none⟩ = [Value.bool false, Value.slice none 0 0, Value.slice none 0 0][o]?) ∧ (∀ o, W.frozen? ⟨w.heap.size + 1, o, none⟩ = false)) ∧ W.cell? ⟨w.heap.size, 0, none⟩ = some (.slice ZA n zc)) ⟨Lib.hid ⟨(by repeat' (first | exact Below.refl _ _ | (refine Below.alloc ?_ ?_ _) | (refine Below.setCell ?_ ?_ _) | (refine Below.drew ?_) | (refine below_next ?_ ?_ (by assumption)) | omega | (simp; done) | (simp; omega))), by simp, (by intro o; simp [go_sem]), (by intro o; simp [go_sem])⟩, by simp [go_sem]⟩ ?_
  intro W0 ⟨H0, k0⟩
  have HE := Lib.hid (hasEE_c B m cap ln rr W0 (HR.out.below H0.out.1))
  rw [he] at HE
  clear he
  go_upto_region 3 with (go_at_call 93; refine (HE.out).mono ?_; rintro e w1 ⟨rfl, hb1⟩)
  refine at_world (fun W => Hid (Below w.heap.size w W ∧ CC W B m ln rr ∧ w.heap.size + 1 < W.heap.size ∧ (∀ o, W.cell? ⟨w.heap.size + 1, o, none⟩ = [Value.bool false, Value.slice none 0 0, Value.slice none 0 0][o]?) ∧ (∀ o, W.frozen? ⟨w.heap.size + 1, o, none⟩ = false)) ∧ W.drew.cell? ⟨w.heap.size, 0, none⟩ = some (.slice ZA n zc)) ⟨Lib.hid ⟨below_next H0.out.1 H0.out.1.size hb1, (HR.out.below H0.out.1).below hb1, by have := H0.out.2.1; have := hb1.size; omega, fun o => (hb1.cell (p := ⟨w.heap.size + 1, o, none⟩) (by have := H0.out.2.1; show w.heap.size + 1 < _; omega)).trans (H0.out.2.2.1 o), fun o => (hb1.frozen (p := ⟨w.heap.size + 1, o, none⟩) (by have := H0.out.2.1; show w.heap.size + 1 < _; omega)).trans (H0.out.2.2.2 o)⟩, cell_later hb1.drew k0⟩ ?_
  clear hb1 H0 HE k0 w1 W0 HR
  intro W1 ⟨H1, k0⟩
  have HCL := Lib.hid (scloned_c B m cap ln rr W1.drew hm (H1.out.2.1.below (Below.refl _ _).drew))
  go_region_held3 (fun w' => w'.cell? ⟨w.heap.size, 0, none⟩ = some (.slice ZA n zc)) (first | exact k0 | (rw [World.cell?_setCell_other _ _ _ _ (by simp), World.cell?_setCell_other _ _ _ _ (by simp), World.cell?_setCell_other _ _ _ _ (by simp)]; exact k0)) ((first | (go_at_call 64; refine (HCL.out).mono ?_; rintro e w2 ⟨B', rfl, hcc, hb2⟩; have H2 := Lib.hid (And.intro hcc hb2); replace k0 := cell_later hb2 k0; have q0 : ∀ o, w2.cell? ⟨w.heap.size + 1, o, none⟩ = [Value.bool false, Value.slice none 0 0, Value.slice none 0 0][o]? := fun o => (hb2.cell (p := ⟨w.heap.size + 1, o, none⟩) H1.out.2.2.1).trans (H1.out.2.2.2.1 o); have f0 : ∀ o, w2.frozen? ⟨w.heap.size + 1, o, none⟩ = false := fun o => (hb2.frozen (p := ⟨w.heap.size + 1, o, none⟩) H1.out.2.2.1).trans (H1.out.2.2.2.2 o); clear hcc hb2)))
  have HCC : Hid (CCk w (((w2.setCell ⟨w.heap.size + 1, 0, none⟩ (.bool false)).setCell ⟨w.heap.size + 1, 1, none⟩ (.slice ZA n zc)).setCell ⟨w.heap.size + 1, 2, none⟩ (.slice B' m m)) B' m ln rr) := Lib.hid (fun W' hs' hk' => H2.out.1 W' (by have : _ ≤ _ := hs'; simpa using this) (fun b hb1 hb2 => by
    have h9 : W1.heap.size ≤ b := hb1
    have hne : b ≠ w.heap.size + 1 := by have := H1.out.2.2.1; omega
    have h8 := hk' b (by have := H1.out.2.2.1; omega) (by simpa using hb2)
    rw [h8, Below.heap_setCell _ ⟨w.heap.size + 1, 2, none⟩ _ b hne, Below.heap_setCell _ ⟨w.heap.size + 1, 1, none⟩ _ b hne, Below.heap_setCell _ ⟨w.heap.size + 1, 0, none⟩ _ b hne]))
  have HBW : Hid (Below w.heap.size w (((w2.setCell ⟨w.heap.size + 1, 0, none⟩ (.bool false)).setCell ⟨w.heap.size + 1, 1, none⟩ (.slice ZA n zc)).setCell ⟨w.heap.size + 1, 2, none⟩ (.slice B' m m))) := Lib.hid ((((below_next H1.out.1.drew H1.out.1.size H2.out.2).setCell (by show w.heap.size ≤ w.heap.size + 1; omega) _).setCell (by show w.heap.size ≤ w.heap.size + 1; omega) _).setCell (by show w.heap.size ≤ w.heap.size + 1; omega) _)
  have c0 := q0 0
  have c1 := q0 1
  have c2 := q0 2
  simp at c0 c1 c2
  go_wp2_with fail
  refine bodyPost_ret (v := .agg #[.bool false, .slice ZA n zc, .slice B' m m]) (by simp [results, Try.results52, go_sem, *]) rfl ⟨B', rfl, HCC.out, HBW.out⟩
end Go.Proofs.Ytdmphpkiclfhhaa.C
