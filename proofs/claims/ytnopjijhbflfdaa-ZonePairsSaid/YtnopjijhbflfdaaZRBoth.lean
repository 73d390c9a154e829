/- The reference's JoinZone, MeetZone, WidenZone: walks. Printed by wip/gen_zrboth.py. -/
import Derived.Test.YtnopjijhbflfdaaZBoth
import Derived.Test.YtnopjijhbflfdaaZWiden
import Derived.Test.YtnopjijhbflfdaaZTop2
namespace Go.Proofs.Ytnopjijhbflfdaa.C
open Go.RowKit
set_option linter.unusedSimpArgs false
set_option linter.unusedVariables false
/-- Behind the copy: three boxes, the copy's, and both that came in. -/
def RbIn (w : World) (b7 : Nat) (a b : Addr) (n c1 c2 B cap : Nat) (R C : Nat → Nat) (M m1 m2 : Z.M) (W : World) : Prop :=
  Below w.heap.size w W ∧ OM W (w.heap.size + 3) B R C n M ∧ (w.heap.size + 2 < b7 ∧ b7 < W.heap.size ∧ b7 ≠ B ∧ ∀ i, i < n → R i ≠ b7) ∧ (∀ o, W.cell? ⟨b7, o, none⟩ = [Value.slice (some ⟨B, 0, none⟩) n cap][o]?) ∧ (∀ o, W.cell? ⟨w.heap.size, o, none⟩ = [Value.slice (some a) n c1][o]?) ∧ (∀ o, W.cell? ⟨w.heap.size + 1, o, none⟩ = [Value.slice (some b) n c2][o]?) ∧ (∀ o, W.cell? ⟨w.heap.size + 1 + 1, o, none⟩ = [Value.slice none 0 0][o]?) ∧ (∀ o, W.frozen? ⟨w.heap.size + 1 + 1, o, none⟩ = false) ∧ RM W a n m1 ∧ RM W b n m2
theorem RbIn.changed {w W W' : World} {b7 n c1 c2 B cap : Nat} {a b : Addr} {R C : Nat → Nat} {M M' m1 m2 : Z.M} (h : RbIn w b7 a b n c1 c2 B cap R C M m1 m2 W) (h1 : RM w a n m1) (h2 : RM w b n m2) (hk : Kept R n W W') (hm : OM W' (w.heap.size + 3) B R C n M') : RbIn w b7 a b n c1 c2 B cap R C M' m1 m2 W' := by
  have hr : ∀ q, q ≤ w.heap.size + 2 → ∀ i, i < n → q ≠ R i := fun q hq i hi => by have := (h.2.1.hR i hi).1; omega
  have hl : w.heap.size + 2 < W.heap.size := by have := h.2.2.1; omega
  have hb : Below w.heap.size w W' := hk.below (fun i hi => by have := (h.2.1.hR i hi).1; omega) h.1 h.1.size
  exact ⟨hb, hm, ⟨h.2.2.1.1, Nat.lt_of_lt_of_le h.2.2.1.2.1 hk.size, h.2.2.1.2.2⟩, fun o => (hk.cell (p := ⟨b7, o, none⟩) h.2.2.1.2.1 (fun i hi => (h.2.2.1.2.2.2 i hi).symm)).trans (h.2.2.2.1 o), fun o => (hk.cell (p := ⟨w.heap.size, o, none⟩) (by show w.heap.size < _; omega) (hr _ (by show w.heap.size ≤ _; omega))).trans (h.2.2.2.2.1 o), fun o => (hk.cell (p := ⟨w.heap.size + 1, o, none⟩) (by show w.heap.size + 1 < _; omega) (hr _ (by show w.heap.size + 1 ≤ _; omega))).trans (h.2.2.2.2.2.1 o), fun o => (hk.cell (p := ⟨w.heap.size + 1 + 1, o, none⟩) (by show w.heap.size + 1 + 1 < _; omega) (hr _ (by show w.heap.size + 1 + 1 ≤ _; omega))).trans (h.2.2.2.2.2.2.1 o), fun o => (hk.frozen (p := ⟨w.heap.size + 1 + 1, o, none⟩) (by show w.heap.size + 1 + 1 < _; omega) (hr _ (by show w.heap.size + 1 + 1 ≤ _; omega))).trans (h.2.2.2.2.2.2.2.1 o), h1.below hb, h2.below hb⟩
theorem RbIn.start {w W0 w1 : World} {a b : Addr} {n c1 c2 B cap : Nat} {R C : Nat → Nat} {m1 m2 M : Z.M} {t : TypeId} (h0 : Below w.heap.size w W0 ∧ W0.heap.size = w.heap.size + 1 + 1 + 1) (k0 : ∀ o, W0.cell? ⟨w.heap.size, o, none⟩ = [Value.slice (some a) n c1][o]?) (k1 : ∀ o, W0.cell? ⟨w.heap.size + 1, o, none⟩ = [Value.slice (some b) n c2][o]?) (k2 : ∀ o, W0.cell? ⟨w.heap.size + 1 + 1, o, none⟩ = [Value.slice none 0 0][o]?) (f2 : ∀ o, W0.frozen? ⟨w.heap.size + 1 + 1, o, none⟩ = false) (h1 : RM w a n m1) (h2 : RM w b n m2) (hom : OM w1 W0.heap.size B R C n M) (hb : Below W0.heap.size W0 w1) :
    RbIn w w1.heap.size a b n c1 c2 B cap R C M m1 m2 (w1.alloc (.cells #[.slice (some ⟨B, 0, none⟩) n cap] t)) := by
  have hs := hb.size
  have hs0 := h0.2
  have ha : Below w1.heap.size w1 (w1.alloc (.cells #[.slice (some ⟨B, 0, none⟩) n cap] t)) := (Below.refl _ _).alloc (Nat.le_refl _) _
  have hw0 : Below W0.heap.size W0 (w1.alloc (.cells #[.slice (some ⟨B, 0, none⟩) n cap] t)) := hb.trans (ha.mono hs)
  have hw : Below w.heap.size w (w1.alloc (.cells #[.slice (some ⟨B, 0, none⟩) n cap] t)) := below_next h0.1 h0.1.size hw0
  have hom' := hom
  rw [hs0] at hom'
  exact ⟨hw, hom'.below ha, ⟨by omega, by simp, by have := hom.hB.2; omega, fun i hi => by have := (hom.hR i hi).2.1; omega⟩, (by intro o; simp [go_sem]), fun o => (hw0.cell (p := ⟨w.heap.size, o, none⟩) (by show w.heap.size < _; omega)).trans (k0 o), fun o => (hw0.cell (p := ⟨w.heap.size + 1, o, none⟩) (by show w.heap.size + 1 < _; omega)).trans (k1 o), fun o => (hw0.cell (p := ⟨w.heap.size + 1 + 1, o, none⟩) (by show w.heap.size + 1 + 1 < _; omega)).trans (k2 o), fun o => (hw0.frozen (p := ⟨w.heap.size + 1 + 1, o, none⟩) (by show w.heap.size + 1 + 1 < _; omega)).trans (f2 o), h1.below hw, h2.below hw⟩
set_option maxRecDepth 100000 in
set_option maxHeartbeats 6400000 in
theorem rjoin_c (a b : Addr) (n c1 c2 : Nat) (m1 m2 : Z.M) (w : World) (hn : 1 ≤ n) (hn2 : n ≤ 100) (h1 : RM w a n m1) (h2 : RM w b n m2) :
    Calls Try.prog 34 #[.agg #[.slice (some a) n c1], .agg #[.slice (some b) n c2]] w (NewM w n (opM max m1 m2)) := by
  have HA := Lib.hid h1
  have HB := Lib.hid h2
  clear h1 h2
  go_enter Try.func34, Try.ntmps34
  go_upto_region 1 with fail
  refine at_world (fun W => Hid ((Below w.heap.size w W ∧ W.heap.size = w.heap.size + 1 + 1 + 1) ∧ (∀ o, W.cell? ⟨w.heap.size + 1, o, none⟩ = [Value.slice (some b) n c2][o]?) ∧ (∀ o, W.cell? ⟨w.heap.size + 1 + 1, o, none⟩ = [Value.slice none 0 0][o]?) ∧ (∀ o, W.frozen? ⟨w.heap.size + 1 + 1, o, none⟩ = false)) ∧ (∀ o, W.cell? ⟨w.heap.size, o, none⟩ = [Value.slice (some a) n c1][o]?)) ⟨Lib.hid ⟨⟨(by repeat' (first | exact Below.refl _ _ | (refine Below.alloc ?_ ?_ _) | (refine Below.setCell ?_ ?_ _) | (refine Below.drew ?_) | (refine below_next ?_ ?_ (by assumption)) | omega | (simp; done) | (simp; omega))), by simp⟩, (by intro o; simp [go_sem]), (by intro o; simp [go_sem]), (by intro o; simp [go_sem])⟩, (by intro o; simp [go_sem])⟩ ?_
  intro W0 ⟨H0, k0⟩
  go_upto_region 2 with (go_at_call 45; refine (copyZone_c a n c1 m1 _ hn (by omega) (HA.out.below H0.out.1.1)).mono ?_; rintro e w1 ⟨B, R, C, cap, rfl, hcap, hom, hb⟩)
  refine at_world (fun W => Hid (RbIn w w1.heap.size a b n c1 c2 B cap R C m1 m1 m2 W)) (Lib.hid (RbIn.start H0.out.1 k0 H0.out.2.1 H0.out.2.2.1 H0.out.2.2.2 HA.out HB.out hom hb)) ?_
  obtain ⟨b7, hb7⟩ : ∃ b, w1.heap.size = b := ⟨_, rfl⟩
  simp only [hb7]
  clear hom hb k0 H0 hb7 w1 W0
  intro W1 H1
  go_wp2_with fail
  go_loopw [6] (fun v wr => ∃ k : Nat, k ≤ n ∧ v = .int .i64 k ∧ RbIn w b7 a b n c1 c2 B cap R C (pairM max m1 m2 k 0) m1 m2 wr) (fun v _ => n - (intOf v).toNat)
  case atStart => exact ⟨0, by omega, rfl, H1.out.1, H1.out.2.1.alike (pairM_start _ _ _ _), H1.out.2.2⟩
  case round =>
    obtain ⟨k, hk, rfl, hbi⟩ := hrel
    have HI := Lib.hid hbi
    clear hbi
    obtain ⟨wo, rfl⟩ : ∃ wo : World, wo = wr := ⟨_, rfl⟩
    have ka := HI.out.2.2.2.2.1
    by_cases hlt : k < n
    · have hk0 : (0 : Int) ≤ (k : Int) := by omega
      have hk1 : (k : Int) < (n : Int) := by omega
      go_wp2_with fail
      clear ka
      go_loopw [7] (fun v wr => ∃ t : Nat, t ≤ n ∧ v = .int .i64 t ∧ RbIn w b7 a b n c1 c2 B cap R C (pairM max m1 m2 k t) m1 m2 wr) (fun v _ => n - (intOf v).toNat)
      case atStart => exact ⟨0, by omega, rfl, HI.out⟩
      case round =>
        obtain ⟨t, ht, rfl, hbi⟩ := hrel
        have HJ := Lib.hid hbi
        clear hbi
        have ka := HJ.out.2.2.2.2.1
        by_cases hlu : t < n
        · obtain ⟨Ra, Ca, p1, p2⟩ := HJ.out.2.2.2.2.2.2.2.2.1
          obtain ⟨Rb, Cb, q1, q2⟩ := HJ.out.2.2.2.2.2.2.2.2.2
          have f2 := HJ.out.2.1.frz k t hlt hlu
          have c0' := HJ.out.2.1.outer k hlt
          have c1' := (p1 k hlt).1
          have c2' := p2 k t hlt hlu
          have c3' := (q1 k hlt).1
          have c4' := q2 k t hlt hlu
          have kb := HJ.out.2.2.2.2.2.1
          have k7 := HJ.out.2.2.2.1
          have hl0 : w.heap.size < wr.heap.size := by have := HJ.out.2.2.1; omega
          have hl1 : w.heap.size + 1 < wr.heap.size := by have := HJ.out.2.2.1; omega
          have hl7 : b7 < wr.heap.size := HJ.out.2.2.1.2.1
          have ht0 : (0 : Int) ≤ (t : Int) := by omega
          have ht1 : (t : Int) < (n : Int) := by omega
          have HS := Lib.hid (pairM_step max m1 m2 k t n)
          obtain ⟨x, hx⟩ : ∃ x, m1 k t = x := ⟨_, rfl⟩
          obtain ⟨y, hy⟩ : ∃ x, m2 k t = x := ⟨_, rfl⟩
          rw [hx] at c2'
          rw [hy] at c4'
          rw [hx, hy] at HS
          obtain ⟨z, hz⟩ : ∃ z : Int, (if x < y then y else x) = z := ⟨_, rfl⟩
          have HZ : Hid (max x y = z) := Lib.hid (by rw [← hz]; split <;> omega)
          rw [HZ.out] at HS
          clear hx hy HZ p1 p2 q1 q2
          obtain ⟨wi, rfl⟩ : ∃ wi : World, wi = wr := ⟨_, rfl⟩
          have d0 := fun (x' : WIn (Below wi.heap.size wi)) => cell_later x'.h c0'
          have d1 := fun (x' : WIn (Below wi.heap.size wi)) => cell_later x'.h c1'
          have d2 := fun (x' : WIn (Below wi.heap.size wi)) => cell_later x'.h c2'
          have d3 := fun (x' : WIn (Below wi.heap.size wi)) => cell_later x'.h c3'
          have d4 := fun (x' : WIn (Below wi.heap.size wi)) => cell_later x'.h c4'
          have d5 := fun (x' : WIn (Below wi.heap.size wi)) (o : Nat) => (x'.h.cell (p := ⟨w.heap.size, o, none⟩) hl0).trans (ka o)
          have d6 := fun (x' : WIn (Below wi.heap.size wi)) (o : Nat) => (x'.h.cell (p := ⟨w.heap.size + 1, o, none⟩) hl1).trans (kb o)
          have d7 := fun (x' : WIn (Below wi.heap.size wi)) (o : Nat) => (x'.h.cell (p := ⟨b7, o, none⟩) hl7).trans (k7 o)
          clear c0' c1' c2' c3' c4' kb k7
          go_upto_region 8 with fail
          clear ka
          refine region_tail 23 (Below wi.heap.size wi) (by kernel_rfl) (by kernel_rfl) (Below.refl _ _).drew (fun inst => ?_)
          simp only [List.take_succ_cons, List.take_zero, List.drop_succ_cons, List.drop_zero]
          iterate 23 (go_big_quiet_step (fail))
          refine wpQuiet_nil ?_
          intro wd hbd
          (try simp only [hz])
          have f4 : wd.frozen? ⟨R k, t, none⟩ = false := by rw [hbd.frozen (p := ⟨R k, t, none⟩) (HJ.out.2.1.hR k hlt).2.1]; exact f2
          obtain ⟨v4, k4⟩ : ∃ v, wd.cell? ⟨R k, t, none⟩ = some v := ⟨_, (HJ.out.2.1.below hbd).inner k t hlt hlu⟩
          clear d0 d1 d2 d3 d4 d5 d6 d7 f2 hz
          go_wp2_with fail
          all_goals exact ⟨⟨t + 1, by omega, by go_num, HJ.out.changed HA.out HB.out (((Kept.refl R n wi).grow hbd).setCell hlt t _) (((HJ.out.2.1.below hbd).set hlt hlu z).alike HS.out)⟩, by simp [intOf]; omega⟩
        · obtain rfl : t = n := by omega
          have HJ2 : Hid (RbIn w b7 a b t c1 c2 B cap R C (pairM max m1 m2 (k + 1) 0) m1 m2 wr) := Lib.hid ⟨HJ.out.1, HJ.out.2.1.alike (pairM_row _ _ _ _ _), HJ.out.2.2⟩
          clear ht hlu
          go_wp2_with fail
          all_goals exact ⟨⟨k + 1, by omega, by go_num, HJ2.out⟩, by simp [intOf]; omega⟩
    · obtain rfl : k = n := by omega
      have k1 := HI.out.2.2.2.1
      have k2 := HI.out.2.2.2.2.2.2.1
      have f2 := HI.out.2.2.2.2.2.2.2.1
      have HOM : Hid (OM wo (w.heap.size + 3) B R C k (opM max m1 m2)) := Lib.hid (HI.out.2.1.alike (pairM_end _ _ _ _))
      clear hk hlt
      go_wp2_with fail
      exact bodyPost_ret (v := .agg #[.slice (some ⟨B, 0, none⟩) k cap]) (by simp [results, Try.results34, go_sem, *]) rfl ⟨B, R, C, cap, rfl, hcap, (HOM.out.lower (by omega)).keep (by simp) (Below.heap_setCell _ ⟨w.heap.size + 1 + 1, 0, none⟩ _ _ (by have := HOM.out.hB.1; show B ≠ w.heap.size + 1 + 1; omega)) (fun i hi => Below.heap_setCell _ ⟨w.heap.size + 1 + 1, 0, none⟩ _ _ (by have := (HOM.out.hR i hi).1; show R i ≠ w.heap.size + 1 + 1; omega)), HI.out.1.setCell (by show w.heap.size ≤ w.heap.size + 1 + 1; omega) _⟩
theorem rminM_fit {m1 m2 : Z.M} {n : Nat} (h1 : Z.Fit m1 n) (h2 : Z.Fit m2 n) : Z.Fit (opM min m1 m2) n := fun i j hi hj => by
  have h1 := h1 i j hi hj
  have h2 := h2 i j hi hj
  unfold opM; omega
set_option maxRecDepth 100000 in
set_option maxHeartbeats 6400000 in
theorem rmeet_c (a b : Addr) (n c1 c2 : Nat) (m1 m2 : Z.M) (w : World) (hn : 1 ≤ n) (hn2 : n ≤ 100) (h1 : RM w a n m1) (h2 : RM w b n m2) (hf1 : Z.Fit m1 n) (hf2 : Z.Fit m2 n) :
    Calls Try.prog 28 #[.agg #[.slice (some a) n c1], .agg #[.slice (some b) n c2]] w (NewM2 w n (Z.rCloseM (opM min m1 m2) n)) := by
  have HF := Lib.hid (rminM_fit hf1 hf2)
  clear hf1 hf2
  have HA := Lib.hid h1
  have HB := Lib.hid h2
  clear h1 h2
  go_enter Try.func28, Try.ntmps28
  go_upto_region 1 with fail
  refine at_world (fun W => Hid ((Below w.heap.size w W ∧ W.heap.size = w.heap.size + 1 + 1 + 1) ∧ (∀ o, W.cell? ⟨w.heap.size + 1, o, none⟩ = [Value.slice (some b) n c2][o]?) ∧ (∀ o, W.cell? ⟨w.heap.size + 1 + 1, o, none⟩ = [Value.slice none 0 0][o]?) ∧ (∀ o, W.frozen? ⟨w.heap.size + 1 + 1, o, none⟩ = false)) ∧ (∀ o, W.cell? ⟨w.heap.size, o, none⟩ = [Value.slice (some a) n c1][o]?)) ⟨Lib.hid ⟨⟨(by repeat' (first | exact Below.refl _ _ | (refine Below.alloc ?_ ?_ _) | (refine Below.setCell ?_ ?_ _) | (refine Below.drew ?_) | (refine below_next ?_ ?_ (by assumption)) | omega | (simp; done) | (simp; omega))), by simp⟩, (by intro o; simp [go_sem]), (by intro o; simp [go_sem]), (by intro o; simp [go_sem])⟩, (by intro o; simp [go_sem])⟩ ?_
  intro W0 ⟨H0, k0⟩
  go_upto_region 2 with (go_at_call 45; refine (copyZone_c a n c1 m1 _ hn (by omega) (HA.out.below H0.out.1.1)).mono ?_; rintro e w1 ⟨B, R, C, cap, rfl, hcap, hom, hb⟩)
  refine at_world (fun W => Hid (RbIn w w1.heap.size a b n c1 c2 B cap R C m1 m1 m2 W)) (Lib.hid (RbIn.start H0.out.1 k0 H0.out.2.1 H0.out.2.2.1 H0.out.2.2.2 HA.out HB.out hom hb)) ?_
  obtain ⟨b7, hb7⟩ : ∃ b, w1.heap.size = b := ⟨_, rfl⟩
  simp only [hb7]
  clear hom hb k0 H0 hb7 w1 W0
  intro W1 H1
  go_wp2_with fail
  go_loopw [7] (fun v wr => ∃ k : Nat, k ≤ n ∧ v = .int .i64 k ∧ RbIn w b7 a b n c1 c2 B cap R C (pairM min m1 m2 k 0) m1 m2 wr) (fun v _ => n - (intOf v).toNat)
  case atStart => exact ⟨0, by omega, rfl, H1.out.1, H1.out.2.1.alike (pairM_start _ _ _ _), H1.out.2.2⟩
  case round =>
    obtain ⟨k, hk, rfl, hbi⟩ := hrel
    have HI := Lib.hid hbi
    clear hbi
    obtain ⟨wo, rfl⟩ : ∃ wo : World, wo = wr := ⟨_, rfl⟩
    have ka := HI.out.2.2.2.2.1
    by_cases hlt : k < n
    · have hk0 : (0 : Int) ≤ (k : Int) := by omega
      have hk1 : (k : Int) < (n : Int) := by omega
      go_wp2_with fail
      clear ka
      go_loopw [8] (fun v wr => ∃ t : Nat, t ≤ n ∧ v = .int .i64 t ∧ RbIn w b7 a b n c1 c2 B cap R C (pairM min m1 m2 k t) m1 m2 wr) (fun v _ => n - (intOf v).toNat)
      case atStart => exact ⟨0, by omega, rfl, HI.out⟩
      case round =>
        obtain ⟨t, ht, rfl, hbi⟩ := hrel
        have HJ := Lib.hid hbi
        clear hbi
        have ka := HJ.out.2.2.2.2.1
        by_cases hlu : t < n
        · obtain ⟨Ra, Ca, p1, p2⟩ := HJ.out.2.2.2.2.2.2.2.2.1
          obtain ⟨Rb, Cb, q1, q2⟩ := HJ.out.2.2.2.2.2.2.2.2.2
          have f2 := HJ.out.2.1.frz k t hlt hlu
          have c0' := HJ.out.2.1.outer k hlt
          have c1' := (p1 k hlt).1
          have c2' := p2 k t hlt hlu
          have c3' := (q1 k hlt).1
          have c4' := q2 k t hlt hlu
          have kb := HJ.out.2.2.2.2.2.1
          have k7 := HJ.out.2.2.2.1
          have hl0 : w.heap.size < wr.heap.size := by have := HJ.out.2.2.1; omega
          have hl1 : w.heap.size + 1 < wr.heap.size := by have := HJ.out.2.2.1; omega
          have hl7 : b7 < wr.heap.size := HJ.out.2.2.1.2.1
          have ht0 : (0 : Int) ≤ (t : Int) := by omega
          have ht1 : (t : Int) < (n : Int) := by omega
          have HS := Lib.hid (pairM_step min m1 m2 k t n)
          obtain ⟨x, hx⟩ : ∃ x, m1 k t = x := ⟨_, rfl⟩
          obtain ⟨y, hy⟩ : ∃ x, m2 k t = x := ⟨_, rfl⟩
          rw [hx] at c2'
          rw [hy] at c4'
          rw [hx, hy] at HS
          obtain ⟨z, hz⟩ : ∃ z : Int, (if y < x then y else x) = z := ⟨_, rfl⟩
          have HZ : Hid (min x y = z) := Lib.hid (by rw [← hz]; split <;> omega)
          rw [HZ.out] at HS
          clear hx hy HZ p1 p2 q1 q2
          obtain ⟨wi, rfl⟩ : ∃ wi : World, wi = wr := ⟨_, rfl⟩
          have d0 := fun (x' : WIn (Below wi.heap.size wi)) => cell_later x'.h c0'
          have d1 := fun (x' : WIn (Below wi.heap.size wi)) => cell_later x'.h c1'
          have d2 := fun (x' : WIn (Below wi.heap.size wi)) => cell_later x'.h c2'
          have d3 := fun (x' : WIn (Below wi.heap.size wi)) => cell_later x'.h c3'
          have d4 := fun (x' : WIn (Below wi.heap.size wi)) => cell_later x'.h c4'
          have d5 := fun (x' : WIn (Below wi.heap.size wi)) (o : Nat) => (x'.h.cell (p := ⟨w.heap.size, o, none⟩) hl0).trans (ka o)
          have d6 := fun (x' : WIn (Below wi.heap.size wi)) (o : Nat) => (x'.h.cell (p := ⟨w.heap.size + 1, o, none⟩) hl1).trans (kb o)
          have d7 := fun (x' : WIn (Below wi.heap.size wi)) (o : Nat) => (x'.h.cell (p := ⟨b7, o, none⟩) hl7).trans (k7 o)
          clear c0' c1' c2' c3' c4' kb k7
          go_upto_region 8 with fail
          clear ka
          refine region_tail 23 (Below wi.heap.size wi) (by kernel_rfl) (by kernel_rfl) (Below.refl _ _).drew (fun inst => ?_)
          simp only [List.take_succ_cons, List.take_zero, List.drop_succ_cons, List.drop_zero]
          iterate 23 (go_big_quiet_step (fail))
          refine wpQuiet_nil ?_
          intro wd hbd
          (try simp only [hz])
          have f4 : wd.frozen? ⟨R k, t, none⟩ = false := by rw [hbd.frozen (p := ⟨R k, t, none⟩) (HJ.out.2.1.hR k hlt).2.1]; exact f2
          obtain ⟨v4, k4⟩ : ∃ v, wd.cell? ⟨R k, t, none⟩ = some v := ⟨_, (HJ.out.2.1.below hbd).inner k t hlt hlu⟩
          clear d0 d1 d2 d3 d4 d5 d6 d7 f2 hz
          go_wp2_with fail
          all_goals exact ⟨⟨t + 1, by omega, by go_num, HJ.out.changed HA.out HB.out (((Kept.refl R n wi).grow hbd).setCell hlt t _) (((HJ.out.2.1.below hbd).set hlt hlu z).alike HS.out)⟩, by simp [intOf]; omega⟩
        · obtain rfl : t = n := by omega
          have HJ2 : Hid (RbIn w b7 a b t c1 c2 B cap R C (pairM min m1 m2 (k + 1) 0) m1 m2 wr) := Lib.hid ⟨HJ.out.1, HJ.out.2.1.alike (pairM_row _ _ _ _ _), HJ.out.2.2⟩
          clear ht hlu
          go_wp2_with fail
          all_goals exact ⟨⟨k + 1, by omega, by go_num, HJ2.out⟩, by simp [intOf]; omega⟩
    · obtain rfl : k = n := by omega
      have k1 := HI.out.2.2.2.1
      have k2 := HI.out.2.2.2.2.2.2.1
      have f2 := HI.out.2.2.2.2.2.2.2.1
      have HOM : Hid (OM wo (w.heap.size + 3) B R C k (opM min m1 m2)) := Lib.hid (HI.out.2.1.alike (pairM_end _ _ _ _))
      clear hk hlt
      obtain ⟨M, hM⟩ : ∃ M, opM min m1 m2 = M := ⟨_, rfl⟩
      rw [hM] at HOM HF
      have HM0 := Lib.hid hM
      clear hM
      go_wp2_with fail
      refine (rclose_c ⟨B, 0, none⟩ k cap M wo hn (by omega) HOM.out.rm HF.out).mono ?_
      have hs3 : w.heap.size + 2 < wo.heap.size := by have := HI.out.2.2.1; omega
      rintro e w2 ⟨hb2, ⟨ok, B2, R2, C2, cap2, rfl, hcap2, hom2⟩ | ⟨ok, rfl⟩⟩
      · have HP := Lib.hid (And.intro hb2 (And.intro ok hom2))
        have k2' := fun o => (hb2.cell (p := ⟨w.heap.size + 1 + 1, o, none⟩) (by show w.heap.size + 1 + 1 < _; omega)).trans (k2 o)
        have f2' := fun o => (hb2.frozen (p := ⟨w.heap.size + 1 + 1, o, none⟩) (by show w.heap.size + 1 + 1 < _; omega)).trans (f2 o)
        clear hb2 ok hom2 k1 k2 f2
        go_wp2_with fail
        exact bodyPost_ret (v := .tuple #[.agg #[.slice (some ⟨B2, 0, none⟩) k cap2], .bool true]) (by simp [results, Try.results28, go_sem, *]) rfl ⟨(below_next HI.out.1 HI.out.1.size HP.out.1).setCell (by show w.heap.size ≤ w.heap.size + 1 + 1; omega) _, .inl ⟨by rw [HM0.out]; exact HP.out.2.1, B2, R2, C2, cap2, rfl, hcap2, by rw [HM0.out]; exact (HP.out.2.2.lower (by omega)).keep (by simp) (Below.heap_setCell _ ⟨w.heap.size + 1 + 1, 0, none⟩ _ _ (by have := HP.out.2.2.hB.1; show B2 ≠ w.heap.size + 1 + 1; omega)) (fun i hi => Below.heap_setCell _ ⟨w.heap.size + 1 + 1, 0, none⟩ _ _ (by have := (HP.out.2.2.hR i hi).1; show R2 i ≠ w.heap.size + 1 + 1; omega))⟩⟩
      · have HP := Lib.hid (And.intro hb2 ok)
        have k2' := fun o => (hb2.cell (p := ⟨w.heap.size + 1 + 1, o, none⟩) (by show w.heap.size + 1 + 1 < _; omega)).trans (k2 o)
        have f2' := fun o => (hb2.frozen (p := ⟨w.heap.size + 1 + 1, o, none⟩) (by show w.heap.size + 1 + 1 < _; omega)).trans (f2 o)
        clear hb2 ok k1 k2 f2
        go_wp2_with fail
        exact bodyPost_ret (v := .tuple #[.agg #[.slice none 0 0], .bool false]) (by simp [results, Try.results28, go_sem, *]) rfl ⟨(below_next HI.out.1 HI.out.1.size HP.out.1).setCell (by show w.heap.size ≤ w.heap.size + 1 + 1; omega) _, .inr ⟨by rw [HM0.out]; exact HP.out.2, rfl⟩⟩
/-- The same, and Top's zone with its box. -/
def RwIn (w : World) (b7 b9 : Nat) (a b T0 : Addr) (n c1 c2 c3 B cap : Nat) (R C : Nat → Nat) (M m1 m2 T : Z.M) (W : World) : Prop :=
  RbIn w b7 a b n c1 c2 B cap R C M m1 m2 W ∧ (b9 < W.heap.size ∧ ∀ i, i < n → R i ≠ b9) ∧ (∀ o, W.cell? ⟨b9, o, none⟩ = [Value.slice (some T0) n c3][o]?) ∧ ∃ (B' : Nat) (R' C' : Nat → Nat), T0 = ⟨B', 0, none⟩ ∧ OM W 0 B' R' C' n T ∧ (∀ i, i < n → R i ≠ B' ∧ ∀ j, j < n → R i ≠ R' j)
theorem RwIn.changed {w W W' : World} {b7 b9 n c1 c2 c3 B cap : Nat} {a b T0 : Addr} {R C : Nat → Nat} {M M' m1 m2 T : Z.M} (h : RwIn w b7 b9 a b T0 n c1 c2 c3 B cap R C M m1 m2 T W) (h1 : RM w a n m1) (h2 : RM w b n m2) (hk : Kept R n W W') (hm : OM W' (w.heap.size + 3) B R C n M') : RwIn w b7 b9 a b T0 n c1 c2 c3 B cap R C M' m1 m2 T W' := by
  obtain ⟨B', R', C', e, hT, hne⟩ := h.2.2.2
  exact ⟨h.1.changed h1 h2 hk hm, ⟨Nat.lt_of_lt_of_le h.2.1.1 hk.size, h.2.1.2⟩, fun o => (hk.cell (p := ⟨b9, o, none⟩) h.2.1.1 (fun i hi => (h.2.1.2 i hi).symm)).trans (h.2.2.1 o), B', R', C', e, hT.keep hk.size (hk.block B' hT.hB.2 (fun i hi => (hne i hi).1.symm)) (fun j hj => hk.block _ (hT.hR j hj).2.1 (fun i hi => ((hne i hi).2 j hj).symm)), hne⟩
theorem RwIn.alike {w W : World} {b7 b9 n c1 c2 c3 B cap : Nat} {a b T0 : Addr} {R C : Nat → Nat} {M M' m1 m2 T : Z.M} (h : RwIn w b7 b9 a b T0 n c1 c2 c3 B cap R C M m1 m2 T W) (ha : Z.Alike M M' n) : RwIn w b7 b9 a b T0 n c1 c2 c3 B cap R C M' m1 m2 T W := ⟨⟨h.1.1, h.1.2.1.alike ha, h.1.2.2⟩, h.2⟩
set_option maxRecDepth 100000 in
set_option maxHeartbeats 6400000 in
theorem rwiden_c (a b : Addr) (n c1 c2 : Nat) (m1 m2 : Z.M) (A : Option Addr) (q ct : Nat) (ts : Nat → Int) (w : World) (hq : q + 1 = n) (hn2 : n ≤ 100) (h1 : RM w a n m1) (h2 : RM w b n m2) (h3 : RowC w A q ts) (hf1 : Z.Fit m1 n) :
    Calls Try.prog 30 #[.agg #[.slice (some a) n c1], .agg #[.slice (some b) n c2], .slice A q ct] w (NewM2 w n (Z.rCloseM (widM m1 m2 (Z.rCloseM (topM ts q) n)) n)) := by
  have hn : 1 ≤ n := by omega
  have hq2 : q ≤ 100 := by omega
  have HQ := Lib.hid hq
  have HT3 := Lib.hid h3
  have HFT : Hid (Z.Fit (Z.rCloseM (topM ts q) n) n) := Lib.hid ((Z.close_alike (topM_fit ts q n)).fit (Z.closeM_fit (Z.clampM_fit _ n)))
  have HF := Lib.hid (widM_fit (m' := m2) hf1 HFT.out)
  clear hf1 h3 hq HFT
  have HA := Lib.hid h1
  have HB := Lib.hid h2
  clear h1 h2
  go_enter Try.func30, Try.ntmps30
  go_upto_region 1 with fail
  refine at_world (fun W => Hid ((Below w.heap.size w W ∧ W.heap.size = w.heap.size + 1 + 1 + 1) ∧ (∀ o, W.cell? ⟨w.heap.size + 1, o, none⟩ = [Value.slice (some b) n c2][o]?) ∧ (∀ o, W.cell? ⟨w.heap.size + 1 + 1, o, none⟩ = [Value.slice none 0 0][o]?) ∧ (∀ o, W.frozen? ⟨w.heap.size + 1 + 1, o, none⟩ = false)) ∧ (∀ o, W.cell? ⟨w.heap.size, o, none⟩ = [Value.slice (some a) n c1][o]?)) ⟨Lib.hid ⟨⟨(by repeat' (first | exact Below.refl _ _ | (refine Below.alloc ?_ ?_ _) | (refine Below.setCell ?_ ?_ _) | (refine Below.drew ?_) | (refine below_next ?_ ?_ (by assumption)) | omega | (simp; done) | (simp; omega))), by simp⟩, (by intro o; simp [go_sem]), (by intro o; simp [go_sem]), (by intro o; simp [go_sem])⟩, (by intro o; simp [go_sem])⟩ ?_
  intro W0 ⟨H0, k0⟩
  go_upto_region 2 with (go_at_call 45; refine (copyZone_c a n c1 m1 _ hn (by omega) (HA.out.below H0.out.1.1)).mono ?_; rintro e w1 ⟨B, R, C, cap, rfl, hcap, hom, hb⟩)
  refine at_world (fun W => Hid (RbIn w w1.heap.size a b n c1 c2 B cap R C m1 m1 m2 W)) (Lib.hid (RbIn.start H0.out.1 k0 H0.out.2.1 H0.out.2.2.1 H0.out.2.2.2 HA.out HB.out hom hb)) ?_
  obtain ⟨b7, hb7⟩ : ∃ b, w1.heap.size = b := ⟨_, rfl⟩
  simp only [hb7]
  clear hom hb k0 H0 hb7 w1 W0
  intro W1 H1
  have HR1 := Lib.hid (topZone_c A q ct ts W1 (HT3.out.below H1.out.1) hq2)
  rw [HQ.out] at HR1
  go_upto_region 3 with (go_at_call 25; refine (HR1.out).mono ?_; rintro e w2 ⟨B', R', C', c3, rfl, hcap3, hom3, hb3⟩)
  refine at_world (fun W => Hid (RwIn w b7 w2.heap.size a b ⟨B', 0, none⟩ n c1 c2 c3 B cap R C m1 m1 m2 (Z.rCloseM (topM ts q) n) W)) ?_ ?_
  · have hs := hb3.size
    have ha : Below w2.heap.size w2 (w2.alloc (.cells #[.slice (some ⟨B', 0, none⟩) n c3] 24)) := (Below.refl _ _).alloc (Nat.le_refl _) _
    have hw : Below W1.heap.size W1 (w2.alloc (.cells #[.slice (some ⟨B', 0, none⟩) n c3] 24)) := hb3.trans (ha.mono hs)
    exact Lib.hid ⟨H1.out.changed HA.out HB.out ((Kept.refl R n W1).grow hw) (H1.out.2.1.below hw), ⟨by simp, fun i hi => by have := (H1.out.2.1.hR i hi).2.1; omega⟩, (by intro o; simp [go_sem]), B', R', C', rfl, (hom3.lower (Nat.zero_le _)).below ha, fun i hi => ⟨by have := (H1.out.2.1.hR i hi).2.1; have := hom3.hB.1; omega, fun j hj => by have := (H1.out.2.1.hR i hi).2.1; have := (hom3.hR j hj).1; omega⟩⟩
  obtain ⟨b9, hb9⟩ : ∃ b, w2.heap.size = b := ⟨_, rfl⟩
  simp only [hb9]
  clear hom3 hb3 hcap3 HR1 H1 HT3 hb9 w2 W1
  intro W2 H2
  obtain ⟨T, hT⟩ : ∃ T, Z.rCloseM (topM ts q) n = T := ⟨_, rfl⟩
  rw [hT] at H2 HF
  have HM0 : Hid (Z.rCloseM (widM m1 m2 (Z.rCloseM (topM ts q) n)) n = Z.rCloseM (widM m1 m2 T) n) := Lib.hid (by rw [hT])
  clear hT
  go_wp2_with fail
  go_loopw [10] (fun v wr => ∃ k : Nat, k ≤ n ∧ v = .int .i64 k ∧ RwIn w b7 b9 a b ⟨B', 0, none⟩ n c1 c2 c3 B cap R C (partM (widM m1 m2 T) m1 k 0) m1 m2 T wr) (fun v _ => n - (intOf v).toNat)
  case atStart => exact ⟨0, by omega, rfl, H2.out.alike (partM_start _ _ _)⟩
  case round =>
    obtain ⟨k, hk, rfl, hbi⟩ := hrel
    have HI := Lib.hid hbi
    clear hbi
    obtain ⟨wo, rfl⟩ : ∃ wo : World, wo = wr := ⟨_, rfl⟩
    have ka := HI.out.1.2.2.2.2.1
    by_cases hlt : k < n
    · have hk0 : (0 : Int) ≤ (k : Int) := by omega
      have hk1 : (k : Int) < (n : Int) := by omega
      have gk1 : decide (k < n) = true := decide_eq_true hlt
      go_wp2_with fail
      clear ka
      go_loopw [11] (fun v wr => ∃ t : Nat, t ≤ n ∧ v = .int .i64 t ∧ RwIn w b7 b9 a b ⟨B', 0, none⟩ n c1 c2 c3 B cap R C (partM (widM m1 m2 T) m1 k t) m1 m2 T wr) (fun v _ => n - (intOf v).toNat)
      case atStart => exact ⟨0, by omega, rfl, HI.out⟩
      case round =>
        obtain ⟨t, ht, rfl, hbi⟩ := hrel
        have HJ := Lib.hid hbi
        clear hbi
        have ka := HJ.out.1.2.2.2.2.1
        by_cases hlu : t < n
        · obtain ⟨Ra, Ca, p1, p2⟩ := HJ.out.1.2.2.2.2.2.2.2.2.1
          obtain ⟨Rb, Cb, q1, q2⟩ := HJ.out.1.2.2.2.2.2.2.2.2.2
          have f2 := HJ.out.1.2.1.frz k t hlt hlu
          have c1' := (p1 k hlt).1
          have c2' := p2 k t hlt hlu
          have c3' := (q1 k hlt).1
          have c4' := q2 k t hlt hlu
          have kb := HJ.out.1.2.2.2.2.2.1
          have hl0 : w.heap.size < wr.heap.size := by have := HJ.out.1.2.2.1; omega
          have hl1 : w.heap.size + 1 < wr.heap.size := by have := HJ.out.1.2.2.1; omega
          have hl7 : b7 < wr.heap.size := HJ.out.1.2.2.1.2.1
          have hl9 : b9 < wr.heap.size := HJ.out.2.1.1
          have ht0 : (0 : Int) ≤ (t : Int) := by omega
          have ht1 : (t : Int) < (n : Int) := by omega
          have gt1 : decide (t < n) = true := decide_eq_true hlu
          have HS := Lib.hid (partM_step (widM m1 m2 T) m1 k t n)
          have HSK := Lib.hid (partM_skip (widM m1 m2 T) m1 k t n)
          have HV : Hid (widM m1 m2 T k t = if m2 k t ≤ m1 k t then m1 k t else if k = 0 ∨ t = 0 then T k t else 1099511627776) := Lib.hid rfl
          obtain ⟨x, hx⟩ : ∃ x, m1 k t = x := ⟨_, rfl⟩
          obtain ⟨y, hy⟩ : ∃ x, m2 k t = x := ⟨_, rfl⟩
          rw [hx] at c2' HSK HV
          rw [hy] at c4' HV
          clear hx hy p1 p2 q1 q2
          obtain ⟨wi, rfl⟩ : ∃ wi : World, wi = wr := ⟨_, rfl⟩
          have d1 := fun (x' : WIn (Below wi.heap.size wi)) => cell_later x'.h c1'
          have d2 := fun (x' : WIn (Below wi.heap.size wi)) => cell_later x'.h c2'
          have d3 := fun (x' : WIn (Below wi.heap.size wi)) => cell_later x'.h c3'
          have d4 := fun (x' : WIn (Below wi.heap.size wi)) => cell_later x'.h c4'
          have d5 := fun (x' : WIn (Below wi.heap.size wi)) (o : Nat) => (x'.h.cell (p := ⟨w.heap.size, o, none⟩) hl0).trans (ka o)
          have d6 := fun (x' : WIn (Below wi.heap.size wi)) (o : Nat) => (x'.h.cell (p := ⟨w.heap.size + 1, o, none⟩) hl1).trans (kb o)
          clear c1' c2' c3' c4' kb
          by_cases hxy : y ≤ x
          · have g1 : decide (y ≤ x) = true := decide_eq_true hxy
            have hv := HV.out
            rw [if_pos hxy] at hv
            have HA2 := Lib.hid (HSK.out hv)
            clear hxy hv
            go_upto_region 9 with fail
            clear ka
            refine region_in (Below wi.heap.size wi) (by kernel_rfl) (by kernel_rfl) (Below.refl _ _).drew (fun inst => ?_)
            iterate 17 (go_big_quiet_step (fail))
            refine wpQuiet_nil ?_
            intro wd hbd
            clear d1 d2 d3 d4 d5 d6 f2
            go_wp2_with fail
            all_goals exact ⟨⟨t + 1, by omega, by go_num, (HJ.out.changed HA.out HB.out ((Kept.refl R n wi).grow hbd) (HJ.out.1.2.1.below hbd)).alike HA2.out⟩, by simp [intOf]; omega⟩
          · have g1 : decide (y ≤ x) = false := decide_eq_false hxy
            have hv := HV.out
            rw [if_neg hxy] at hv
            go_upto_region 9 with fail
            clear ka
            refine region_in (Below wi.heap.size wi) (by kernel_rfl) (by kernel_rfl) (Below.refl _ _).drew (fun inst => ?_)
            iterate 17 (go_big_quiet_step (fail))
            refine wpQuiet_nil ?_
            intro wd hbd
            have HD := Lib.hid (HJ.out.changed HA.out HB.out ((Kept.refl R n wi).grow hbd) (HJ.out.1.2.1.below hbd))
            have c0 := HD.out.1.2.1.outer k hlt
            have f4 := HD.out.1.2.1.frz k t hlt hlu
            obtain ⟨v4, k4⟩ : ∃ v, wd.cell? ⟨R k, t, none⟩ = some v := ⟨_, HD.out.1.2.1.inner k t hlt hlu⟩
            have k7 := HD.out.1.2.2.2.1
            clear d1 d2 d3 d4 d5 d6 f2 hbd
            go_upto_region 11 with fail
            refine at_world (fun W => Hid (RwIn w b7 b9 a b ⟨B', 0, none⟩ n c1 c2 c3 B cap R C (Z.upd (partM (widM m1 m2 T) m1 k t) k t 1099511627776) m1 m2 T W)) (Lib.hid (HD.out.changed HA.out HB.out ((Kept.refl R n wd).setCell hlt t _) (HD.out.1.2.1.set hlt hlu 1099511627776))) ?_
            clear c0 f4 k4 v4 k7 HD
            intro W3 H3
            have k9 := H3.out.2.2.1
            by_cases hz : k = 0 ∨ t = 0
            · rw [if_pos hz] at hv
              rw [hv] at HS
              have HZ := Lib.hid hz
              have HS2 : Hid (Z.Alike (Z.upd (Z.upd (partM (widM m1 m2 T) m1 k t) k t 1099511627776) k t (T k t)) (partM (widM m1 m2 T) m1 k (t + 1)) n) := Lib.hid (fun i j hi hj => by
                have := HS.out i j hi hj
                rw [← this]
                unfold Z.upd
                split <;> rfl)
              obtain ⟨B2, R2, C2, e2, hT2, _⟩ := H3.out.2.2.2
              have eB : B' = B2 := by injection e2
              subst eB
              have c5 := hT2.outer k hlt
              have c6 := hT2.inner k t hlt hlu
              have c0 := H3.out.1.2.1.outer k hlt
              have f2 := H3.out.1.2.1.frz k t hlt hlu
              have k7 := H3.out.1.2.2.2.1
              have hl7 : b7 < W3.heap.size := H3.out.1.2.2.1.2.1
              have hl9 : b9 < W3.heap.size := H3.out.2.1.1
              obtain ⟨z, hz'⟩ : ∃ x, T k t = x := ⟨_, rfl⟩
              rw [hz'] at c6 HS2
              clear hv hxy hz e2 hT2 hz' HS HSK HV
              have d1 := fun (x' : WIn (Below W3.heap.size W3)) => cell_later x'.h c5
              have d2 := fun (x' : WIn (Below W3.heap.size W3)) => cell_later x'.h c6
              have d3 := fun (x' : WIn (Below W3.heap.size W3)) => cell_later x'.h c0
              have d5 := fun (x' : WIn (Below W3.heap.size W3)) (o : Nat) => (x'.h.cell (p := ⟨b7, o, none⟩) hl7).trans (k7 o)
              have d6 := fun (x' : WIn (Below W3.heap.size W3)) (o : Nat) => (x'.h.cell (p := ⟨b9, o, none⟩) hl9).trans (k9 o)
              clear c5 c6 c0 k7
              by_cases ek : k = 0
              · have g2 : ((k : Int) == 0) = true := by simp; omega
                clear ek
                go_upto_region 12 with fail
                clear k9
                refine region_tail 14 (Below W3.heap.size W3) (by kernel_rfl) (by kernel_rfl) (Below.refl _ _).drew (fun inst => ?_)
                simp only [List.take_succ_cons, List.take_zero, List.drop_succ_cons, List.drop_zero]
                iterate 14 (go_big_quiet_step (fail))
                refine wpQuiet_nil ?_
                intro we hbe
                have f4 : we.frozen? ⟨R k, t, none⟩ = false := by rw [hbe.frozen (p := ⟨R k, t, none⟩) (H3.out.1.2.1.hR k hlt).2.1]; exact f2
                obtain ⟨v4, k4⟩ : ∃ v, we.cell? ⟨R k, t, none⟩ = some v := ⟨_, (H3.out.1.2.1.below hbe).inner k t hlt hlu⟩
                clear d1 d2 d3 d5 d6 f2
                go_wp2_with fail
                all_goals exact ⟨⟨t + 1, by omega, by go_num, H3.out.changed HA.out HB.out (((Kept.refl R n W3).grow hbe).setCell hlt t _) (((H3.out.1.2.1.below hbe).set hlt hlu z).alike HS2.out)⟩, by simp [intOf]; omega⟩
              · have g2 : ((k : Int) == 0) = false := by simp; omega
                have g3 : ((t : Int) == 0) = true := by have := HZ.out; simp; omega
                clear ek
                go_upto_region 12 with fail
                clear k9
                refine region_tail 14 (Below W3.heap.size W3) (by kernel_rfl) (by kernel_rfl) (Below.refl _ _).drew (fun inst => ?_)
                simp only [List.take_succ_cons, List.take_zero, List.drop_succ_cons, List.drop_zero]
                iterate 14 (go_big_quiet_step (fail))
                refine wpQuiet_nil ?_
                intro we hbe
                have f4 : we.frozen? ⟨R k, t, none⟩ = false := by rw [hbe.frozen (p := ⟨R k, t, none⟩) (H3.out.1.2.1.hR k hlt).2.1]; exact f2
                obtain ⟨v4, k4⟩ : ∃ v, we.cell? ⟨R k, t, none⟩ = some v := ⟨_, (H3.out.1.2.1.below hbe).inner k t hlt hlu⟩
                clear d1 d2 d3 d5 d6 f2
                go_wp2_with fail
                all_goals exact ⟨⟨t + 1, by omega, by go_num, H3.out.changed HA.out HB.out (((Kept.refl R n W3).grow hbe).setCell hlt t _) (((H3.out.1.2.1.below hbe).set hlt hlu z).alike HS2.out)⟩, by simp [intOf]; omega⟩
            · rw [if_neg hz] at hv
              rw [hv] at HS
              have g2 : ((k : Int) == 0) = false := by simp; omega
              have g3 : ((t : Int) == 0) = false := by simp; omega
              clear hv hxy hz
              go_wp2_with fail
              all_goals exact ⟨⟨t + 1, by omega, by go_num, H3.out.alike HS.out⟩, by simp [intOf]; omega⟩
        · obtain rfl : t = n := by omega
          have HJ2 : Hid (RwIn w b7 b9 a b ⟨B', 0, none⟩ t c1 c2 c3 B cap R C (partM (widM m1 m2 T) m1 (k + 1) 0) m1 m2 T wr) := Lib.hid (HJ.out.alike (partM_row _ _ _ _))
          clear ht hlu
          go_wp2_with fail
          all_goals exact ⟨⟨k + 1, by omega, by go_num, HJ2.out⟩, by simp [intOf]; omega⟩
    · obtain rfl : k = n := by omega
      have k1 := HI.out.1.2.2.2.1
      have k2 := HI.out.1.2.2.2.2.2.2.1
      have f2 := HI.out.1.2.2.2.2.2.2.2.1
      have HOM : Hid (OM wo (w.heap.size + 3) B R C k (widM m1 m2 T)) := Lib.hid (HI.out.1.2.1.alike (partM_end _ _ _))
      obtain ⟨M, hM⟩ : ∃ M, widM m1 m2 T = M := ⟨_, rfl⟩
      rw [hM] at HOM HF HM0
      clear hM hk hlt
      go_wp2_with fail
      refine (rclose_c ⟨B, 0, none⟩ k cap M wo hn (by omega) HOM.out.rm HF.out).mono ?_
      have hs3 : w.heap.size + 2 < wo.heap.size := by have := HI.out.1.2.2.1; omega
      rintro e w2 ⟨hb2, ⟨ok, B2, R2, C2, cap2, rfl, hcap2, hom2⟩ | ⟨ok, rfl⟩⟩
      · have HP := Lib.hid (And.intro hb2 (And.intro ok hom2))
        have k2' := fun o => (hb2.cell (p := ⟨w.heap.size + 1 + 1, o, none⟩) (by show w.heap.size + 1 + 1 < _; omega)).trans (k2 o)
        have f2' := fun o => (hb2.frozen (p := ⟨w.heap.size + 1 + 1, o, none⟩) (by show w.heap.size + 1 + 1 < _; omega)).trans (f2 o)
        clear hb2 ok hom2 k1 k2 f2
        go_wp2_with fail
        exact bodyPost_ret (v := .tuple #[.agg #[.slice (some ⟨B2, 0, none⟩) k cap2], .bool true]) (by simp [results, Try.results30, go_sem, *]) rfl ⟨(below_next HI.out.1.1 HI.out.1.1.size HP.out.1).setCell (by show w.heap.size ≤ w.heap.size + 1 + 1; omega) _, .inl ⟨by rw [HM0.out]; exact HP.out.2.1, B2, R2, C2, cap2, rfl, hcap2, by rw [HM0.out]; exact (HP.out.2.2.lower (by omega)).keep (by simp) (Below.heap_setCell _ ⟨w.heap.size + 1 + 1, 0, none⟩ _ _ (by have := HP.out.2.2.hB.1; show B2 ≠ w.heap.size + 1 + 1; omega)) (fun i hi => Below.heap_setCell _ ⟨w.heap.size + 1 + 1, 0, none⟩ _ _ (by have := (HP.out.2.2.hR i hi).1; show R2 i ≠ w.heap.size + 1 + 1; omega))⟩⟩
      · have HP := Lib.hid (And.intro hb2 ok)
        have k2' := fun o => (hb2.cell (p := ⟨w.heap.size + 1 + 1, o, none⟩) (by show w.heap.size + 1 + 1 < _; omega)).trans (k2 o)
        have f2' := fun o => (hb2.frozen (p := ⟨w.heap.size + 1 + 1, o, none⟩) (by show w.heap.size + 1 + 1 < _; omega)).trans (f2 o)
        clear hb2 ok k1 k2 f2
        go_wp2_with fail
        exact bodyPost_ret (v := .tuple #[.agg #[.slice none 0 0], .bool false]) (by simp [results, Try.results30, go_sem, *]) rfl ⟨(below_next HI.out.1.1 HI.out.1.1.size HP.out.1).setCell (by show w.heap.size ≤ w.heap.size + 1 + 1; omega) _, .inr ⟨by rw [HM0.out]; exact HP.out.2, rfl⟩⟩
end Go.Proofs.Ytnopjijhbflfdaa.C
