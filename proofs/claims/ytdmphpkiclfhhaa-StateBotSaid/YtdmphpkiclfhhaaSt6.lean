/- state.Copy: walk. -/
import Derived.Test.YtdmphpkiclfhhaaSt5
namespace Go.Proofs.Ytdmphpkiclfhhaa.C
open Go.RowKit
set_option linter.unusedSimpArgs false
set_option linter.unusedVariables false
attribute [local go_sem] fieldItv0 fieldItv1
def CopySt (n m : Nat) (M : Z.M) (ln : Nat → Nat) (rr : Nat → Nat → Int × Int) (w : World) (e : Ending) (w' : World) : Prop :=
  ∃ (zb : Nat) (R C : Nat → Nat) (B : Option Addr), e = .returned (.agg #[.bool false, .slice (some ⟨zb, 0, none⟩) n n, .slice B m m]) ∧ OM w' w.heap.size zb R C n M ∧ CCk w w' B m ln rr ∧ Below w.heap.size w w'
set_option maxRecDepth 100000 in
set_option maxHeartbeats 12800000 in
theorem stCopy_c (a : Addr) (B : Option Addr) (n zc m c2 : Nat) (M : Z.M) (ln : Nat → Nat) (rr : Nat → Nat → Int × Int) (w : World) (hn : 1 ≤ n) (hn2 : n ≤ 1000) (hm : m ≤ 1000) (hM : RM w a n M) (hC : CC w B m ln rr) :
    Calls Try.prog 58 #[.agg #[.bool false, .slice (some a) n zc, .slice B m c2]] w (CopySt n m M ln rr w) := by
  have HM := Lib.hid hM
  have HC := Lib.hid hC
  clear hM hC
  have hmk := fun W => run_make_row' (P := Try.prog) 29 41 (.slice none 0 0) 24 Try.underlying29 infoR rfl .i64 .i64 n (by omega) (by omega) W
  go_enter Try.func58, Try.ntmps58
  go_upto_region 4 with fail
  clear hmk
  refine at_world (fun W => Hid (Below w.heap.size w W ∧ OMP W (w.heap.size + 1 + 1) (w.heap.size + 1 + 1) (fun _ => 0) (fun _ => 0) n 0 41 M ∧ w.heap.size + 3 < W.heap.size ∧ W.cell? ⟨w.heap.size + 1 + 1 + 1, 0, none⟩ = some (.slice (some ⟨w.heap.size + 1 + 1, 0, none⟩) n n)) ∧ (∀ o, W.cell? ⟨w.heap.size, o, none⟩ = [Value.bool false, Value.slice (some a) n zc, Value.slice B m c2][o]?) ∧ (∀ o, W.cell? ⟨w.heap.size + 1, o, none⟩ = [Value.bool false, Value.slice none 0 0, Value.slice none 0 0][o]?) ∧ (∀ o, W.frozen? ⟨w.heap.size + 1, o, none⟩ = false)) ?_ ?_
  · refine ⟨Lib.hid ⟨(by repeat' (first | exact Below.refl _ _ | (refine Below.alloc ?_ ?_ _) | (refine Below.setCell ?_ ?_ _) | (refine Below.drew ?_) | (refine below_next ?_ ?_ (by assumption)) | omega | (simp; done) | (simp; omega))), ?_, by simp, by simp [go_sem]⟩, ?_, ?_, ?_⟩
    · have h9 := OMP.start ((w.alloc (.cells #[.bool false, .slice (some a) n zc, .slice B m c2] 34)).alloc (.cells #[.bool false, .slice none 0 0, .slice none 0 0] 34)) (base := w.heap.size + 1 + 1) (by simp) n 41 (fun _ => 0) (fun _ => 0) M
      have e9 : ((w.alloc (.cells #[.bool false, .slice (some a) n zc, .slice B m c2] 34)).alloc (.cells #[.bool false, .slice none 0 0, .slice none 0 0] 34)).heap.size = w.heap.size + 1 + 1 := by simp
      rw [e9] at h9
      exact h9.below ((Below.refl _ _).alloc (Nat.le_refl _) _)
    · intro o; simp [go_sem]
    · intro o; simp [go_sem]
    · intro o; simp [go_sem]
  intro W0 HW0
  obtain ⟨HB0, k0, k1, f1⟩ := HW0
  go_wp2_with fail
  go_loopw [19] (fun i wr => ∃ (k : Nat) (R C : Nat → Nat), k ≤ n ∧ i = .int .i64 k ∧ OMP wr (w.heap.size + 1 + 1) (w.heap.size + 1 + 1) R C n k 41 M ∧ Below (w.heap.size + 1 + 1) W0 wr ∧ wr.cell? ⟨w.heap.size + 1 + 1 + 1, 0, none⟩ = some (.slice (some ⟨w.heap.size + 1 + 1, 0, none⟩) n n)) (fun i _ => n - (intOf i).toNat)
  case atStart => exact ⟨0, _, _, by omega, rfl, HB0.out.2.1, Below.refl _ _, HB0.out.2.2.2⟩
  case round =>
    obtain ⟨k, R, C, hk, rfl, homp, hb, k3⟩ := hrel
    have hs3 : w.heap.size + 3 < wr.heap.size := by have := hb.size; have := HB0.out.2.2.1; omega
    have HW : Hid (Below w.heap.size w wr) := Lib.hid (HB0.out.1.trans (hb.mono (by omega)))
    have HP := Lib.hid homp
    have HB := Lib.hid hb
    by_cases hlt : k < n
    · obtain ⟨Rm, Cm, hm1, hm2⟩ := HM.out.below HW.out
      have c1 := (hm1 k hlt).1
      have CL := fun W => clone_c (Rm k) n (Cm k) (M k) W hn hn2
      have HR := Lib.hid (fun j (hj : j < n) => (hm2 k j hlt hj : wr.cell? ((Rm k).add j) = some (.int .i64 (M k j))))
      have hk0 : (0 : Int) ≤ (k : Int) := by omega
      have hk1 : (k : Int) < (n : Int) := by omega
      clear hm1 hm2 homp hb k0 k1 f1
      obtain ⟨wo, rfl⟩ : ∃ wo : World, wo = wr := ⟨_, rfl⟩
      go_upto_region 7 with fail
      go_region_held3 (fun w' => w'.cell? ⟨w.heap.size + 1 + 1 + 1, 0, none⟩ = some (.slice (some ⟨w.heap.size + 1 + 1, 0, none⟩) n n)) (first | exact k3 | exact k3b | (rw [World.cell?_setCell_other _ _ _ _ (by simp)]; exact k3b)) ((first | (go_at_call 105; refine (CL wo.drew HR.out).mono ?_; rintro e w1 ⟨g, c, rfl, hrw0⟩; have hrw := hrw0.before (Below.refl wo.heap.size wo).drew; have q1 := (HP.out.below hrw.2.2.2.2.2).outer.cell hlt; have q2 := (HP.out.below hrw.2.2.2.2.2).outer.frozen k; have k3b := cell_later hrw.2.2.2.2.2 k3; have HRW := Lib.hid hrw; clear hrw hrw0)))
      have HN : Hid (OMP (w1.setCell ⟨w.heap.size + 1 + 1, k, none⟩ (.slice (some ⟨g, 0, none⟩) n c)) (w.heap.size + 1 + 1) (w.heap.size + 1 + 1) (fun i => if i = k then g else R i) (fun i => if i = k then c else C i) n (k + 1) 41 M) := Lib.hid (HP.out.new hlt HRW.out (fun _ _ _ _ => rfl) (fun _ _ => rfl) (by omega))
      have HB2 : Hid (Below (w.heap.size + 1 + 1) W0 (w1.setCell ⟨w.heap.size + 1 + 1, k, none⟩ (.slice (some ⟨g, 0, none⟩) n c))) := Lib.hid ((HB.out.trans (HRW.out.2.2.2.2.2.mono (by omega))).setCell (Nat.le_refl _) _)
      have K3 : Hid ((w1.setCell ⟨w.heap.size + 1 + 1, k, none⟩ (.slice (some ⟨g, 0, none⟩) n c)).cell? ⟨w.heap.size + 1 + 1 + 1, 0, none⟩ = some (.slice (some ⟨w.heap.size + 1 + 1, 0, none⟩) n n)) := Lib.hid (by rw [World.cell?_setCell_other _ _ _ _ (by simp)]; exact k3b)
      clear q1 q2 HRW HP HB HR CL c1 HW k3 k3b
      go_wp2_with fail
      all_goals exact ⟨⟨k + 1, _, _, by omega, by go_num, HN.out, HB2.out, K3.out⟩, by simp [intOf]; omega⟩
    · obtain rfl : k = n := by omega
      have HOM := Lib.hid homp.om
      have k1' : ∀ o, wr.cell? ⟨w.heap.size + 1, o, none⟩ = [Value.bool false, Value.slice none 0 0, Value.slice none 0 0][o]? := fun o => (hb.cell (p := ⟨w.heap.size + 1, o, none⟩) (by show w.heap.size + 1 < _; omega)).trans (k1 o)
      have f1' : ∀ o, wr.frozen? ⟨w.heap.size + 1, o, none⟩ = false := fun o => (hb.frozen (p := ⟨w.heap.size + 1, o, none⟩) (by show w.heap.size + 1 < _; omega)).trans (f1 o)
      have k2 : wr.drew.cell? ⟨w.heap.size, 2, none⟩ = some (.slice B m c2) := (hb.cell (p := ⟨w.heap.size, 2, none⟩) (by show w.heap.size < _; omega)).trans (by simpa using k0 2)
      have HQ := Lib.hid (And.intro k1' f1')
      have HCL := Lib.hid (scloned_c B m c2 ln rr wr.drew hm ((HC.out.below HW.out).below (Below.refl _ _).drew))
      clear homp hb k0 k1 f1 k1' f1' HP HB hk hlt
      obtain ⟨wo, rfl⟩ : ∃ wo : World, wo = wr := ⟨_, rfl⟩
      replace k3 : wo.drew.cell? ⟨w.heap.size + 1 + 1 + 1, 0, none⟩ = some (.slice (some ⟨w.heap.size + 1 + 1, 0, none⟩) k k) := k3
      go_upto_region 9 with fail
      go_region_held3 (fun w' => w'.cell? ⟨w.heap.size + 1 + 1 + 1, 0, none⟩ = some (.slice (some ⟨w.heap.size + 1 + 1, 0, none⟩) k k) ∧ w'.cell? ⟨w.heap.size, 2, none⟩ = some (.slice B m c2)) (first | exact ⟨k3, k2⟩ | (refine ⟨?_, ?_⟩; (· (rw [World.cell?_setCell_other _ _ _ _ (by simp), World.cell?_setCell_other _ _ _ _ (by simp), World.cell?_setCell_other _ _ _ _ (by simp)]; exact k3)); (· (rw [World.cell?_setCell_other _ _ _ _ (by simp), World.cell?_setCell_other _ _ _ _ (by simp), World.cell?_setCell_other _ _ _ _ (by simp)]; exact k2)))) ((first | (go_at_call 64; refine (HCL.out).mono ?_; rintro e w2 ⟨B', rfl, hcc, hb2⟩; have H2 := Lib.hid (And.intro hcc hb2); replace k3 := cell_later hb2 k3; replace k2 := cell_later hb2 k2; have q0 : ∀ o, w2.cell? ⟨w.heap.size + 1, o, none⟩ = [Value.bool false, Value.slice none 0 0, Value.slice none 0 0][o]? := fun o => (hb2.cell (p := ⟨w.heap.size + 1, o, none⟩) (by show w.heap.size + 1 < wo.heap.size; omega)).trans (HQ.out.1 o); have f0 : ∀ o, w2.frozen? ⟨w.heap.size + 1, o, none⟩ = false := fun o => (hb2.frozen (p := ⟨w.heap.size + 1, o, none⟩) (by show w.heap.size + 1 < wo.heap.size; omega)).trans (HQ.out.2 o); clear hcc hb2)))
      have hk6 : ∀ b, b ≠ w.heap.size + 1 → ((((w2.setCell ⟨w.heap.size + 1, 0, none⟩ (.bool false)).setCell ⟨w.heap.size + 1, 1, none⟩ (.slice (some ⟨w.heap.size + 1 + 1, 0, none⟩) k k)).setCell ⟨w.heap.size + 1, 2, none⟩ (.slice B' m m)).heap[b]?) = w2.heap[b]? := fun b hne => by
        rw [Below.heap_setCell _ ⟨w.heap.size + 1, 2, none⟩ _ b hne, Below.heap_setCell _ ⟨w.heap.size + 1, 1, none⟩ _ b hne, Below.heap_setCell _ ⟨w.heap.size + 1, 0, none⟩ _ b hne]
      have HOM6 := HOM.out.drew.below H2.out.2
      have HOMx := (HOM6.keep (by simp) (hk6 _ (by omega)) (fun i hi => hk6 _ (by have := HOM6.hR i hi; omega)) : OM (((w2.setCell ⟨w.heap.size + 1, 0, none⟩ (.bool false)).setCell ⟨w.heap.size + 1, 1, none⟩ (.slice (some ⟨w.heap.size + 1 + 1, 0, none⟩) k k)).setCell ⟨w.heap.size + 1, 2, none⟩ (.slice B' m m)) (w.heap.size + 1 + 1) (w.heap.size + 1 + 1) R C k M).lower (base' := w.heap.size) (by omega)
      have hz2 : w.heap.size + 1 < wo.drew.heap.size := by show w.heap.size + 1 < wo.heap.size; omega
      have HCCx : CCk w (((w2.setCell ⟨w.heap.size + 1, 0, none⟩ (.bool false)).setCell ⟨w.heap.size + 1, 1, none⟩ (.slice (some ⟨w.heap.size + 1 + 1, 0, none⟩) k k)).setCell ⟨w.heap.size + 1, 2, none⟩ (.slice B' m m)) B' m ln rr := fun W' hs' hk' => H2.out.1 W' (by have : _ ≤ _ := hs'; simpa using this) (fun b hb1 hb2 => by
        have h9 : wo.heap.size ≤ b := hb1
        exact (hk' b (by omega) (by simpa using hb2)).trans (hk6 b (by omega)))
      have HBx := (((below_next HW.out.drew HW.out.size H2.out.2).setCell (p := ⟨w.heap.size + 1, 0, none⟩) (by show w.heap.size ≤ w.heap.size + 1; omega) (.bool false)).setCell (p := ⟨w.heap.size + 1, 1, none⟩) (by show w.heap.size ≤ w.heap.size + 1; omega) (.slice (some ⟨w.heap.size + 1 + 1, 0, none⟩) k k)).setCell (p := ⟨w.heap.size + 1, 2, none⟩) (by show w.heap.size ≤ w.heap.size + 1; omega) (.slice B' m m)
      have HEND := Lib.hid (And.intro HOMx (And.intro HCCx HBx))
      clear HOMx HCCx HBx HOM6 hk6 hz2 hs3
      have x0 := q0 0
      have x1 := q0 1
      have x2 := q0 2
      simp at x0 x1 x2
      go_wp2_with fail
      refine bodyPost_ret (v := .agg #[.bool false, .slice (some ⟨w.heap.size + 1 + 1, 0, none⟩) k k, .slice B' m m]) (by simp [results, Try.results58, go_sem, *]) rfl ⟨w.heap.size + 1 + 1, R, C, B', rfl, HEND.out.1, HEND.out.2.1, HEND.out.2.2⟩
/-- A copy, and the result's box behind it. -/
theorem CopySt.put {n m : Nat} {M : Z.M} {ln : Nat → Nat} {rr : Nat → Nat → Int × Int} {w W w2 : World} {e : Ending} (h : CopySt n m M ln rr W e w2) (hB : Below w.heap.size w W) {b : Nat} (h1 : w.heap.size ≤ b) (h2 : b < W.heap.size) (x y z : Value) :
    CopySt n m M ln rr w e (((w2.setCell ⟨b, 0, none⟩ x).setCell ⟨b, 1, none⟩ y).setCell ⟨b, 2, none⟩ z) := by
  obtain ⟨zb, R, C, B, rfl, ho, hc, hb⟩ := h
  have hk : ∀ q, q ≠ b → (((w2.setCell ⟨b, 0, none⟩ x).setCell ⟨b, 1, none⟩ y).setCell ⟨b, 2, none⟩ z).heap[q]? = w2.heap[q]? := fun q hq => by
    rw [Below.heap_setCell _ ⟨b, 2, none⟩ _ q hq, Below.heap_setCell _ ⟨b, 1, none⟩ _ q hq, Below.heap_setCell _ ⟨b, 0, none⟩ _ q hq]
  refine ⟨zb, R, C, B, rfl, (ho.keep (by simp) (hk _ (by have := ho.hB; omega)) (fun i hi => hk _ (by have := ho.hR i hi; omega))).lower hB.size, fun W' hs' hk' => hc W' (by have : _ ≤ _ := hs'; simpa using this) (fun q hq1 hq2 => (hk' q (by have := hB.size; omega) (by simpa using hq2)).trans (hk q (by omega))), ?_⟩
  exact (((below_next hB hB.size hb).setCell (p := ⟨b, 0, none⟩) h1 _).setCell (p := ⟨b, 1, none⟩) h1 _).setCell (p := ⟨b, 2, none⟩) h1 _
end Go.Proofs.Ytdmphpkiclfhhaa.C
