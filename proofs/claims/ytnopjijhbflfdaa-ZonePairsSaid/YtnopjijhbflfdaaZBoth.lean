/- zone.both with max and with min, zone.Join, zone.Meet: walks. Printed by wip/gen_zboth.py. -/
import Derived.Test.YtnopjijhbflfdaaZOps
namespace Go.Proofs.Ytnopjijhbflfdaa.C
open Go.RowKit
set_option linter.unusedSimpArgs false
set_option linter.unusedVariables false
/-- Of two matrices place by place, as far as row k, place t. -/
def pairM (op : Int → Int → Int) (m m' : Z.M) (k t : Nat) : Z.M := fun i j => if i < k ∨ (i = k ∧ j < t) then op (m i j) (m' i j) else m i j
def opM (op : Int → Int → Int) (m m' : Z.M) : Z.M := fun i j => op (m i j) (m' i j)
theorem pairM_start (op : Int → Int → Int) (m m' : Z.M) (n : Nat) : Z.Alike m (pairM op m m' 0 0) n := fun i j _ _ => by unfold pairM; rw [if_neg (by omega)]
theorem pairM_step (op : Int → Int → Int) (m m' : Z.M) (k t n : Nat) : Z.Alike (Z.upd (pairM op m m' k t) k t (op (m k t) (m' k t))) (pairM op m m' k (t + 1)) n := fun i j _ _ => by
  unfold Z.upd pairM
  by_cases e : i = k ∧ j = t
  · obtain ⟨rfl, rfl⟩ := e
    rw [if_pos ⟨rfl, rfl⟩, if_pos (by omega)]
  · rw [if_neg e]
    by_cases e2 : i < k ∨ (i = k ∧ j < t)
    · rw [if_pos e2, if_pos (by omega)]
    · rw [if_neg e2, if_neg (by omega)]
theorem pairM_at (op : Int → Int → Int) (m m' : Z.M) (k t : Nat) : pairM op m m' k t k t = m k t := by unfold pairM; rw [if_neg (by omega)]
theorem pairM_row (op : Int → Int → Int) (m m' : Z.M) (k n : Nat) : Z.Alike (pairM op m m' k n) (pairM op m m' (k + 1) 0) n := fun i j _ hj => by
  unfold pairM
  by_cases e2 : i < k ∨ (i = k ∧ j < n)
  · rw [if_pos e2, if_pos (by omega)]
  · rw [if_neg e2, if_neg (by omega)]
theorem pairM_end (op : Int → Int → Int) (m m' : Z.M) (n : Nat) : Z.Alike (pairM op m m' n 0) (opM op m m') n := fun i j hi _ => by unfold pairM opM; rw [if_pos (.inl hi)]
/-- Behind the copy: three boxes, and the copy's. -/
def BothIn (w : World) (b7 : Nat) (b : Addr) (n c1 c2 B cap : Nat) (R C : Nat → Nat) (M m2 : Z.M) (W : World) : Prop :=
  Below w.heap.size w W ∧ OM W (w.heap.size + 3) B R C n M ∧ (w.heap.size + 2 < b7 ∧ b7 < W.heap.size ∧ b7 ≠ B ∧ ∀ i, i < n → R i ≠ b7) ∧ (∀ o, W.cell? ⟨b7, o, none⟩ = [Value.slice (some ⟨B, 0, none⟩) n cap][o]?) ∧ (∀ o, W.cell? ⟨w.heap.size + 1, o, none⟩ = [Value.slice (some b) n c2][o]?) ∧ (∀ o, W.cell? ⟨w.heap.size + 1 + 1, o, none⟩ = [Value.slice none 0 0][o]?) ∧ (∀ o, W.frozen? ⟨w.heap.size + 1 + 1, o, none⟩ = false) ∧ RM W b n m2
theorem BothIn.changed {w W W' : World} {b7 n c1 c2 B cap : Nat} {b : Addr} {R C : Nat → Nat} {M M' m2 : Z.M} (h : BothIn w b7 b n c1 c2 B cap R C M m2 W) (h2 : RM w b n m2) (hk : Kept R n W W') (hm : OM W' (w.heap.size + 3) B R C n M') : BothIn w b7 b n c1 c2 B cap R C M' m2 W' := by
  have hr : ∀ q, q ≤ w.heap.size + 2 → ∀ i, i < n → q ≠ R i := fun q hq i hi => by have := (h.2.1.hR i hi).1; omega
  have hl : w.heap.size + 2 < W.heap.size := by have := h.2.2.1; omega
  have hb : Below w.heap.size w W' := hk.below (fun i hi => by have := (h.2.1.hR i hi).1; omega) h.1 h.1.size
  exact ⟨hb, hm, ⟨h.2.2.1.1, Nat.lt_of_lt_of_le h.2.2.1.2.1 hk.size, h.2.2.1.2.2⟩, fun o => (hk.cell (p := ⟨b7, o, none⟩) h.2.2.1.2.1 (fun i hi => (h.2.2.1.2.2.2 i hi).symm)).trans (h.2.2.2.1 o), fun o => (hk.cell (p := ⟨w.heap.size + 1, o, none⟩) (by show w.heap.size + 1 < _; omega) (hr _ (by show w.heap.size + 1 ≤ _; omega))).trans (h.2.2.2.2.1 o), fun o => (hk.cell (p := ⟨w.heap.size + 1 + 1, o, none⟩) (by show w.heap.size + 1 + 1 < _; omega) (hr _ (by show w.heap.size + 1 + 1 ≤ _; omega))).trans (h.2.2.2.2.2.1 o), fun o => (hk.frozen (p := ⟨w.heap.size + 1 + 1, o, none⟩) (by show w.heap.size + 1 + 1 < _; omega) (hr _ (by show w.heap.size + 1 + 1 ≤ _; omega))).trans (h.2.2.2.2.2.2.1 o), h2.below hb⟩
theorem fMax_c (x y : Int) (w : World) : Calls Try.prog 57 #[.int .i64 x, .int .i64 y] w fun e w' => e = .returned (.int .i64 (max x y)) ∧ w = w' := by
  obtain ⟨z, hz⟩ : ∃ z : Int, (if x < y then y else x) = z := ⟨_, rfl⟩
  have HZ : Hid (max x y = z) := Lib.hid (by rw [← hz]; split <;> omega)
  go_enter Try.func57, Try.ntmps57
  go_wp2
  go_ret
  exact ⟨by rw [HZ.out]; rfl, rfl⟩
set_option maxRecDepth 100000 in
set_option maxHeartbeats 6400000 in
theorem bothMax_c (a b : Addr) (n c1 c2 : Nat) (m1 m2 : Z.M) (w : World) (hn : 1 ≤ n) (hn2 : n ≤ 1000) (h1 : RM w a n m1) (h2 : RM w b n m2) :
    Calls Try.prog 51 #[.agg #[.slice (some a) n c1], .agg #[.slice (some b) n c2], .func (.func (57)) #[] #[]] w (NewM w n (opM max (Z.clampM m1) m2)) := by
  have HA := Lib.hid h1
  have HB := Lib.hid h2
  clear h1 h2
  go_enter Try.func51, Try.ntmps51
  go_upto_region 1 with fail
  refine at_world (fun W => Hid (Below w.heap.size w W ∧ W.heap.size = w.heap.size + 1 + 1 + 1 ∧ (∀ o, W.cell? ⟨w.heap.size + 1, o, none⟩ = [Value.slice (some b) n c2][o]?) ∧ (∀ o, W.cell? ⟨w.heap.size + 1 + 1, o, none⟩ = [Value.slice none 0 0][o]?) ∧ (∀ o, W.frozen? ⟨w.heap.size + 1 + 1, o, none⟩ = false)) ∧ (∀ o, W.cell? ⟨w.heap.size, o, none⟩ = [Value.slice (some a) n c1][o]?)) ⟨Lib.hid ⟨(by repeat' (first | exact Below.refl _ _ | (refine Below.alloc ?_ ?_ _) | (refine Below.setCell ?_ ?_ _) | (refine Below.drew ?_) | (refine below_next ?_ ?_ (by assumption)) | omega | (simp; done) | (simp; omega))), by simp, (by intro o; simp [go_sem]), (by intro o; simp [go_sem]), (by intro o; simp [go_sem])⟩, (by intro o; simp [go_sem])⟩ ?_
  intro W0 ⟨H0, k0⟩
  go_upto_region 2 with (go_at_call 38; refine (cloned_c a n c1 m1 _ hn hn2 (HA.out.below H0.out.1)).mono ?_; rintro e w1 ⟨B, R, C, cap, rfl, hcap, hom, hb⟩)
  refine at_world (fun W => Hid (BothIn w w1.heap.size b n c1 c2 B cap R C (Z.clampM m1) m2 W)) ?_ ?_
  · have hs := hb.size
    have hs0 := H0.out.2.1
    have ha : Below w1.heap.size w1 (w1.alloc (.cells #[.slice (some ⟨B, 0, none⟩) n cap] 24)) := (Below.refl _ _).alloc (Nat.le_refl _) _
    have hw : Below w.heap.size w (w1.alloc (.cells #[.slice (some ⟨B, 0, none⟩) n cap] 24)) := below_next (below_next H0.out.1 H0.out.1.size hb) (by omega) ha
    have hom' := hom
    rw [hs0] at hom'
    exact Lib.hid ⟨hw, hom'.below ha, ⟨by omega, by simp, by have := hom.hB.2; omega, fun i hi => by have := (hom.hR i hi).2.1; omega⟩, (by intro o; simp [go_sem]), fun o => (ha.cell (p := ⟨w.heap.size + 1, o, none⟩) (by show w.heap.size + 1 < _; omega)).trans ((hb.cell (p := ⟨w.heap.size + 1, o, none⟩) (by show w.heap.size + 1 < _; omega)).trans (H0.out.2.2.1 o)), fun o => (ha.cell (p := ⟨w.heap.size + 1 + 1, o, none⟩) (by show w.heap.size + 1 + 1 < _; omega)).trans ((hb.cell (p := ⟨w.heap.size + 1 + 1, o, none⟩) (by show w.heap.size + 1 + 1 < _; omega)).trans (H0.out.2.2.2.1 o)), fun o => (ha.frozen (p := ⟨w.heap.size + 1 + 1, o, none⟩) (by show w.heap.size + 1 + 1 < _; omega)).trans ((hb.frozen (p := ⟨w.heap.size + 1 + 1, o, none⟩) (by show w.heap.size + 1 + 1 < _; omega)).trans (H0.out.2.2.2.2 o)), HB.out.below hw⟩
  obtain ⟨b7, hb7⟩ : ∃ b, w1.heap.size = b := ⟨_, rfl⟩
  simp only [hb7]
  clear hom hb k0 H0 HA hb7 w1 W0
  intro W1 H1
  have k1 := H1.out.2.2.2.1
  obtain ⟨m, hm⟩ : ∃ m, Z.clampM m1 = m := ⟨_, rfl⟩
  rw [hm] at H1
  have HM0 := Lib.hid hm
  clear hm
  go_wp2_with fail
  clear k1
  go_loopw [16] (fun v wr => ∃ k : Nat, k ≤ n ∧ v = .int .i64 k ∧ BothIn w b7 b n c1 c2 B cap R C (pairM max m m2 k 0) m2 wr) (fun v _ => n - (intOf v).toNat)
  case atStart => exact ⟨0, by omega, rfl, H1.out.1, H1.out.2.1.alike (pairM_start _ _ _ _), H1.out.2.2⟩
  case round =>
    obtain ⟨k, hk, rfl, hbi⟩ := hrel
    have HI := Lib.hid hbi
    clear hbi
    obtain ⟨wo, rfl⟩ : ∃ wo : World, wo = wr := ⟨_, rfl⟩
    by_cases hlt : k < n
    · have c1 := HI.out.2.1.outer k hlt
      have hk0 : (0 : Int) ≤ (k : Int) := by omega
      have hk1 : (k : Int) < (n : Int) := by omega
      go_wp2_with fail
      clear c1
      go_loopw [23] (fun v wr => ∃ t : Nat, t ≤ n ∧ v = .int .i64 t ∧ BothIn w b7 b n c1 c2 B cap R C (pairM max m m2 k t) m2 wr) (fun v _ => n - (intOf v).toNat)
      case atStart => exact ⟨0, by omega, rfl, HI.out⟩
      case round =>
        obtain ⟨t, ht, rfl, hbi⟩ := hrel
        have HJ := Lib.hid hbi
        clear hbi
        by_cases hlu : t < n
        · obtain ⟨Rb, Cb, q1, q2⟩ := HJ.out.2.2.2.2.2.2.2
          have c2' := HJ.out.2.1.inner k t hlt hlu
          rw [pairM_at] at c2'
          have f2 := HJ.out.2.1.frz k t hlt hlu
          have c3 := (q1 k hlt).1
          have c4 := q2 k t hlt hlu
          have k1 := HJ.out.2.2.2.2.1
          have hl1 : w.heap.size + 1 < wr.heap.size := by have := HJ.out.2.2.1; omega
          have ht0 : (0 : Int) ≤ (t : Int) := by omega
          have ht1 : (t : Int) < (n : Int) := by omega
          have HS := Lib.hid (pairM_step max m m2 k t n)
          obtain ⟨x, hx⟩ : ∃ x, m k t = x := ⟨_, rfl⟩
          obtain ⟨y, hy⟩ : ∃ x, m2 k t = x := ⟨_, rfl⟩
          rw [hx] at c2'
          rw [hy] at c4
          rw [hx, hy] at HS
          have FC := fun W => fMax_c x y W
          obtain ⟨z, hz⟩ : ∃ z, max x y = z := ⟨_, rfl⟩
          rw [hz] at HS
          simp only [hz] at FC
          clear hx hy hz q1 q2
          obtain ⟨wi, rfl⟩ : ∃ wi : World, wi = wr := ⟨_, rfl⟩
          have d1 := fun (x' : WIn (Below wi.heap.size wi)) => cell_later x'.h c2'
          have d2 := fun (x' : WIn (Below wi.heap.size wi)) => cell_later x'.h c3
          have d3 := fun (x' : WIn (Below wi.heap.size wi)) => cell_later x'.h c4
          have d4 := fun (x' : WIn (Below wi.heap.size wi)) (o : Nat) => (x'.h.cell (p := ⟨w.heap.size + 1, o, none⟩) hl1).trans (k1 o)
          clear c2' c3 c4 k1
          go_upto_region 8 with fail
          refine region_tail 16 (Below wi.heap.size wi) (by kernel_rfl) (by kernel_rfl) (Below.refl _ _).drew (fun inst => ?_)
          simp only [List.take_succ_cons, List.take_zero, List.drop_succ_cons, List.drop_zero]
          iterate 16 (go_big_quiet_step ((go_at_call 57; exact call_same _ (FC _))))
          refine wpQuiet_nil ?_
          intro wd hbd
          have f4 : wd.frozen? ⟨R k, t, none⟩ = false := by rw [hbd.frozen (p := ⟨R k, t, none⟩) (HJ.out.2.1.hR k hlt).2.1]; exact f2
          obtain ⟨v4, k4⟩ : ∃ v, wd.cell? ⟨R k, t, none⟩ = some v := ⟨_, (HJ.out.2.1.below hbd).inner k t hlt hlu⟩
          clear d1 d2 d3 d4 f2
          go_wp2_with fail
          all_goals exact ⟨⟨t + 1, by omega, by go_num, HJ.out.changed HB.out (((Kept.refl R n wi).grow hbd).setCell hlt t _) (((HJ.out.2.1.below hbd).set hlt hlu z).alike HS.out)⟩, by simp [intOf]; omega⟩
        · obtain rfl : t = n := by omega
          have HJ2 : Hid (BothIn w b7 b t c1 c2 B cap R C (pairM max m m2 (k + 1) 0) m2 wr) := Lib.hid ⟨HJ.out.1, HJ.out.2.1.alike (pairM_row _ _ _ _ _), HJ.out.2.2⟩
          clear ht hlu
          go_wp2_with fail
          all_goals exact ⟨⟨k + 1, by omega, by go_num, HJ2.out⟩, by simp [intOf]; omega⟩
    · obtain rfl : k = n := by omega
      have k1 := HI.out.2.2.2.1
      have k2 := HI.out.2.2.2.2.2.1
      have f2 := HI.out.2.2.2.2.2.2.1
      clear hk hlt
      go_wp2_with fail
      exact bodyPost_ret (v := .agg #[.slice (some ⟨B, 0, none⟩) k cap]) (by simp [results, Try.results51, go_sem, *]) rfl ⟨B, R, C, cap, rfl, hcap, by rw [HM0.out]; exact ((HI.out.2.1.alike (pairM_end _ _ _ _)).lower (by omega)).keep (by simp) (Below.heap_setCell _ ⟨w.heap.size + 1 + 1, 0, none⟩ _ _ (by have := HI.out.2.1.hB.1; show B ≠ w.heap.size + 1 + 1; omega)) (fun i hi => Below.heap_setCell _ ⟨w.heap.size + 1 + 1, 0, none⟩ _ _ (by have := (HI.out.2.1.hR i hi).1; show R i ≠ w.heap.size + 1 + 1; omega)), HI.out.1.setCell (by show w.heap.size ≤ w.heap.size + 1 + 1; omega) _⟩
theorem fMin_c (x y : Int) (w : World) : Calls Try.prog 52 #[.int .i64 x, .int .i64 y] w fun e w' => e = .returned (.int .i64 (min x y)) ∧ w = w' := by
  obtain ⟨z, hz⟩ : ∃ z : Int, (if y < x then y else x) = z := ⟨_, rfl⟩
  have HZ : Hid (min x y = z) := Lib.hid (by rw [← hz]; split <;> omega)
  go_enter Try.func52, Try.ntmps52
  go_wp2
  go_ret
  exact ⟨by rw [HZ.out]; rfl, rfl⟩
set_option maxRecDepth 100000 in
set_option maxHeartbeats 6400000 in
theorem bothMin_c (a b : Addr) (n c1 c2 : Nat) (m1 m2 : Z.M) (w : World) (hn : 1 ≤ n) (hn2 : n ≤ 1000) (h1 : RM w a n m1) (h2 : RM w b n m2) :
    Calls Try.prog 51 #[.agg #[.slice (some a) n c1], .agg #[.slice (some b) n c2], .func (.func (52)) #[] #[]] w (NewM w n (opM min (Z.clampM m1) m2)) := by
  have HA := Lib.hid h1
  have HB := Lib.hid h2
  clear h1 h2
  go_enter Try.func51, Try.ntmps51
  go_upto_region 1 with fail
  refine at_world (fun W => Hid (Below w.heap.size w W ∧ W.heap.size = w.heap.size + 1 + 1 + 1 ∧ (∀ o, W.cell? ⟨w.heap.size + 1, o, none⟩ = [Value.slice (some b) n c2][o]?) ∧ (∀ o, W.cell? ⟨w.heap.size + 1 + 1, o, none⟩ = [Value.slice none 0 0][o]?) ∧ (∀ o, W.frozen? ⟨w.heap.size + 1 + 1, o, none⟩ = false)) ∧ (∀ o, W.cell? ⟨w.heap.size, o, none⟩ = [Value.slice (some a) n c1][o]?)) ⟨Lib.hid ⟨(by repeat' (first | exact Below.refl _ _ | (refine Below.alloc ?_ ?_ _) | (refine Below.setCell ?_ ?_ _) | (refine Below.drew ?_) | (refine below_next ?_ ?_ (by assumption)) | omega | (simp; done) | (simp; omega))), by simp, (by intro o; simp [go_sem]), (by intro o; simp [go_sem]), (by intro o; simp [go_sem])⟩, (by intro o; simp [go_sem])⟩ ?_
  intro W0 ⟨H0, k0⟩
  go_upto_region 2 with (go_at_call 38; refine (cloned_c a n c1 m1 _ hn hn2 (HA.out.below H0.out.1)).mono ?_; rintro e w1 ⟨B, R, C, cap, rfl, hcap, hom, hb⟩)
  refine at_world (fun W => Hid (BothIn w w1.heap.size b n c1 c2 B cap R C (Z.clampM m1) m2 W)) ?_ ?_
  · have hs := hb.size
    have hs0 := H0.out.2.1
    have ha : Below w1.heap.size w1 (w1.alloc (.cells #[.slice (some ⟨B, 0, none⟩) n cap] 24)) := (Below.refl _ _).alloc (Nat.le_refl _) _
    have hw : Below w.heap.size w (w1.alloc (.cells #[.slice (some ⟨B, 0, none⟩) n cap] 24)) := below_next (below_next H0.out.1 H0.out.1.size hb) (by omega) ha
    have hom' := hom
    rw [hs0] at hom'
    exact Lib.hid ⟨hw, hom'.below ha, ⟨by omega, by simp, by have := hom.hB.2; omega, fun i hi => by have := (hom.hR i hi).2.1; omega⟩, (by intro o; simp [go_sem]), fun o => (ha.cell (p := ⟨w.heap.size + 1, o, none⟩) (by show w.heap.size + 1 < _; omega)).trans ((hb.cell (p := ⟨w.heap.size + 1, o, none⟩) (by show w.heap.size + 1 < _; omega)).trans (H0.out.2.2.1 o)), fun o => (ha.cell (p := ⟨w.heap.size + 1 + 1, o, none⟩) (by show w.heap.size + 1 + 1 < _; omega)).trans ((hb.cell (p := ⟨w.heap.size + 1 + 1, o, none⟩) (by show w.heap.size + 1 + 1 < _; omega)).trans (H0.out.2.2.2.1 o)), fun o => (ha.frozen (p := ⟨w.heap.size + 1 + 1, o, none⟩) (by show w.heap.size + 1 + 1 < _; omega)).trans ((hb.frozen (p := ⟨w.heap.size + 1 + 1, o, none⟩) (by show w.heap.size + 1 + 1 < _; omega)).trans (H0.out.2.2.2.2 o)), HB.out.below hw⟩
  obtain ⟨b7, hb7⟩ : ∃ b, w1.heap.size = b := ⟨_, rfl⟩
  simp only [hb7]
  clear hom hb k0 H0 HA hb7 w1 W0
  intro W1 H1
  have k1 := H1.out.2.2.2.1
  obtain ⟨m, hm⟩ : ∃ m, Z.clampM m1 = m := ⟨_, rfl⟩
  rw [hm] at H1
  have HM0 := Lib.hid hm
  clear hm
  go_wp2_with fail
  clear k1
  go_loopw [16] (fun v wr => ∃ k : Nat, k ≤ n ∧ v = .int .i64 k ∧ BothIn w b7 b n c1 c2 B cap R C (pairM min m m2 k 0) m2 wr) (fun v _ => n - (intOf v).toNat)
  case atStart => exact ⟨0, by omega, rfl, H1.out.1, H1.out.2.1.alike (pairM_start _ _ _ _), H1.out.2.2⟩
  case round =>
    obtain ⟨k, hk, rfl, hbi⟩ := hrel
    have HI := Lib.hid hbi
    clear hbi
    obtain ⟨wo, rfl⟩ : ∃ wo : World, wo = wr := ⟨_, rfl⟩
    by_cases hlt : k < n
    · have c1 := HI.out.2.1.outer k hlt
      have hk0 : (0 : Int) ≤ (k : Int) := by omega
      have hk1 : (k : Int) < (n : Int) := by omega
      go_wp2_with fail
      clear c1
      go_loopw [23] (fun v wr => ∃ t : Nat, t ≤ n ∧ v = .int .i64 t ∧ BothIn w b7 b n c1 c2 B cap R C (pairM min m m2 k t) m2 wr) (fun v _ => n - (intOf v).toNat)
      case atStart => exact ⟨0, by omega, rfl, HI.out⟩
      case round =>
        obtain ⟨t, ht, rfl, hbi⟩ := hrel
        have HJ := Lib.hid hbi
        clear hbi
        by_cases hlu : t < n
        · obtain ⟨Rb, Cb, q1, q2⟩ := HJ.out.2.2.2.2.2.2.2
          have c2' := HJ.out.2.1.inner k t hlt hlu
          rw [pairM_at] at c2'
          have f2 := HJ.out.2.1.frz k t hlt hlu
          have c3 := (q1 k hlt).1
          have c4 := q2 k t hlt hlu
          have k1 := HJ.out.2.2.2.2.1
          have hl1 : w.heap.size + 1 < wr.heap.size := by have := HJ.out.2.2.1; omega
          have ht0 : (0 : Int) ≤ (t : Int) := by omega
          have ht1 : (t : Int) < (n : Int) := by omega
          have HS := Lib.hid (pairM_step min m m2 k t n)
          obtain ⟨x, hx⟩ : ∃ x, m k t = x := ⟨_, rfl⟩
          obtain ⟨y, hy⟩ : ∃ x, m2 k t = x := ⟨_, rfl⟩
          rw [hx] at c2'
          rw [hy] at c4
          rw [hx, hy] at HS
          have FC := fun W => fMin_c x y W
          obtain ⟨z, hz⟩ : ∃ z, min x y = z := ⟨_, rfl⟩
          rw [hz] at HS
          simp only [hz] at FC
          clear hx hy hz q1 q2
          obtain ⟨wi, rfl⟩ : ∃ wi : World, wi = wr := ⟨_, rfl⟩
          have d1 := fun (x' : WIn (Below wi.heap.size wi)) => cell_later x'.h c2'
          have d2 := fun (x' : WIn (Below wi.heap.size wi)) => cell_later x'.h c3
          have d3 := fun (x' : WIn (Below wi.heap.size wi)) => cell_later x'.h c4
          have d4 := fun (x' : WIn (Below wi.heap.size wi)) (o : Nat) => (x'.h.cell (p := ⟨w.heap.size + 1, o, none⟩) hl1).trans (k1 o)
          clear c2' c3 c4 k1
          go_upto_region 8 with fail
          refine region_tail 16 (Below wi.heap.size wi) (by kernel_rfl) (by kernel_rfl) (Below.refl _ _).drew (fun inst => ?_)
          simp only [List.take_succ_cons, List.take_zero, List.drop_succ_cons, List.drop_zero]
          iterate 16 (go_big_quiet_step ((go_at_call 52; exact call_same _ (FC _))))
          refine wpQuiet_nil ?_
          intro wd hbd
          have f4 : wd.frozen? ⟨R k, t, none⟩ = false := by rw [hbd.frozen (p := ⟨R k, t, none⟩) (HJ.out.2.1.hR k hlt).2.1]; exact f2
          obtain ⟨v4, k4⟩ : ∃ v, wd.cell? ⟨R k, t, none⟩ = some v := ⟨_, (HJ.out.2.1.below hbd).inner k t hlt hlu⟩
          clear d1 d2 d3 d4 f2
          go_wp2_with fail
          all_goals exact ⟨⟨t + 1, by omega, by go_num, HJ.out.changed HB.out (((Kept.refl R n wi).grow hbd).setCell hlt t _) (((HJ.out.2.1.below hbd).set hlt hlu z).alike HS.out)⟩, by simp [intOf]; omega⟩
        · obtain rfl : t = n := by omega
          have HJ2 : Hid (BothIn w b7 b t c1 c2 B cap R C (pairM min m m2 (k + 1) 0) m2 wr) := Lib.hid ⟨HJ.out.1, HJ.out.2.1.alike (pairM_row _ _ _ _ _), HJ.out.2.2⟩
          clear ht hlu
          go_wp2_with fail
          all_goals exact ⟨⟨k + 1, by omega, by go_num, HJ2.out⟩, by simp [intOf]; omega⟩
    · obtain rfl : k = n := by omega
      have k1 := HI.out.2.2.2.1
      have k2 := HI.out.2.2.2.2.2.1
      have f2 := HI.out.2.2.2.2.2.2.1
      clear hk hlt
      go_wp2_with fail
      exact bodyPost_ret (v := .agg #[.slice (some ⟨B, 0, none⟩) k cap]) (by simp [results, Try.results51, go_sem, *]) rfl ⟨B, R, C, cap, rfl, hcap, by rw [HM0.out]; exact ((HI.out.2.1.alike (pairM_end _ _ _ _)).lower (by omega)).keep (by simp) (Below.heap_setCell _ ⟨w.heap.size + 1 + 1, 0, none⟩ _ _ (by have := HI.out.2.1.hB.1; show B ≠ w.heap.size + 1 + 1; omega)) (fun i hi => Below.heap_setCell _ ⟨w.heap.size + 1 + 1, 0, none⟩ _ _ (by have := (HI.out.2.1.hR i hi).1; show R i ≠ w.heap.size + 1 + 1; omega)), HI.out.1.setCell (by show w.heap.size ≤ w.heap.size + 1 + 1; omega) _⟩
set_option maxRecDepth 100000 in
set_option maxHeartbeats 3200000 in
theorem zjoin_c (a b : Addr) (n c1 c2 : Nat) (m1 m2 : Z.M) (w : World) (hn : 1 ≤ n) (hn2 : n ≤ 1000) (h1 : RM w a n m1) (h2 : RM w b n m2) :
    Calls Try.prog 33 #[.agg #[.slice (some a) n c1], .agg #[.slice (some b) n c2]] w (NewM w n (opM max (Z.clampM m1) m2)) := by
  have HA := Lib.hid h1
  have HB := Lib.hid h2
  clear h1 h2
  go_enter Try.func33, Try.ntmps33
  go_upto_region 1 with fail
  refine at_world (fun W => Hid (Below w.heap.size w W ∧ W.heap.size = w.heap.size + 1 + 1 + 1) ∧ (∀ o, W.cell? ⟨w.heap.size, o, none⟩ = [Value.slice (some a) n c1][o]?) ∧ (∀ o, W.cell? ⟨w.heap.size + 1, o, none⟩ = [Value.slice (some b) n c2][o]?) ∧ (∀ o, W.cell? ⟨w.heap.size + 1 + 1, o, none⟩ = [Value.slice none 0 0][o]?) ∧ (∀ o, W.frozen? ⟨w.heap.size + 1 + 1, o, none⟩ = false)) ⟨Lib.hid ⟨(by repeat' (first | exact Below.refl _ _ | (refine Below.alloc ?_ ?_ _) | (refine Below.setCell ?_ ?_ _) | (refine Below.drew ?_) | (refine below_next ?_ ?_ (by assumption)) | omega | (simp; done) | (simp; omega))), by simp⟩, (by intro o; simp [go_sem]), (by intro o; simp [go_sem]), (by intro o; simp [go_sem]), (by intro o; simp [go_sem])⟩ ?_
  intro W0 ⟨H0, k0, k1, k2, f2⟩
  go_wp2_with fail
  refine (bothMax_c a b n c1 c2 m1 m2 W0 hn hn2 (HA.out.below H0.out.1) (HB.out.below H0.out.1)).mono ?_
  rintro e w1 ⟨B, R, C, cap, rfl, hcap, hom, hb⟩
  have k2' := fun o => (hb.cell (p := ⟨w.heap.size + 1 + 1, o, none⟩) (by have := H0.out.2; show w.heap.size + 1 + 1 < _; omega)).trans (k2 o)
  have f2' := fun o => (hb.frozen (p := ⟨w.heap.size + 1 + 1, o, none⟩) (by have := H0.out.2; show w.heap.size + 1 + 1 < _; omega)).trans (f2 o)
  have HP := Lib.hid (And.intro hom (below_next H0.out.1 H0.out.1.size hb))
  have hs0 := Lib.hid H0.out.2
  clear k0 k1 k2 f2 hom hb H0
  go_wp2_with fail
  exact bodyPost_ret (v := .agg #[.slice (some ⟨B, 0, none⟩) n cap]) (by simp [results, Try.results33, go_sem, *]) rfl ⟨B, R, C, cap, rfl, hcap, (HP.out.1.lower (by have := hs0.out; omega)).keep (by simp) (Below.heap_setCell _ ⟨w.heap.size + 1 + 1, 0, none⟩ _ _ (by have := HP.out.1.hB.1; have := hs0.out; show B ≠ w.heap.size + 1 + 1; omega)) (fun i hi => Below.heap_setCell _ ⟨w.heap.size + 1 + 1, 0, none⟩ _ _ (by have := (HP.out.1.hR i hi).1; have := hs0.out; show R i ≠ w.heap.size + 1 + 1; omega)), HP.out.2.setCell (by show w.heap.size ≤ w.heap.size + 1 + 1; omega) _⟩
theorem minM_fit {m1 m2 : Z.M} {n : Nat} (h : Z.Fit m2 n) : Z.Fit (opM min (Z.clampM m1) m2) n := fun i j hi hj => by
  have h1 := Z.clampM_fit m1 n i j hi hj
  have h2 := h i j hi hj
  unfold opM; omega
set_option maxRecDepth 100000 in
set_option maxHeartbeats 3200000 in
theorem zmeet_c (a b : Addr) (n c1 c2 : Nat) (m1 m2 : Z.M) (w : World) (hn : 1 ≤ n) (hn2 : n ≤ 1000) (h1 : RM w a n m1) (h2 : RM w b n m2) (hf : Z.Fit m2 n) :
    Calls Try.prog 27 #[.agg #[.slice (some a) n c1], .agg #[.slice (some b) n c2]] w (NewM2 w n (Z.closeM (opM min (Z.clampM m1) m2) n)) := by
  have HA := Lib.hid h1
  have HB := Lib.hid h2
  have HF := Lib.hid (minM_fit (m1 := m1) hf)
  clear h1 h2 hf
  go_enter Try.func27, Try.ntmps27
  go_upto_region 1 with fail
  refine at_world (fun W => Hid (Below w.heap.size w W ∧ W.heap.size = w.heap.size + 1 + 1 + 1) ∧ (∀ o, W.cell? ⟨w.heap.size, o, none⟩ = [Value.slice (some a) n c1][o]?) ∧ (∀ o, W.cell? ⟨w.heap.size + 1, o, none⟩ = [Value.slice (some b) n c2][o]?) ∧ (∀ o, W.cell? ⟨w.heap.size + 1 + 1, o, none⟩ = [Value.slice none 0 0][o]?) ∧ (∀ o, W.frozen? ⟨w.heap.size + 1 + 1, o, none⟩ = false)) ⟨Lib.hid ⟨(by repeat' (first | exact Below.refl _ _ | (refine Below.alloc ?_ ?_ _) | (refine Below.setCell ?_ ?_ _) | (refine Below.drew ?_) | (refine below_next ?_ ?_ (by assumption)) | omega | (simp; done) | (simp; omega))), by simp⟩, (by intro o; simp [go_sem]), (by intro o; simp [go_sem]), (by intro o; simp [go_sem]), (by intro o; simp [go_sem])⟩ ?_
  intro W0 ⟨H0, k0, k1, k2, f2⟩
  go_wp2_with fail
  refine (bothMin_c a b n c1 c2 m1 m2 W0 hn hn2 (HA.out.below H0.out.1) (HB.out.below H0.out.1)).mono ?_
  rintro e w1 ⟨B, R, C, cap, rfl, hcap, hom, hb⟩
  obtain ⟨M, hM⟩ : ∃ M, opM min (Z.clampM m1) m2 = M := ⟨_, rfl⟩
  rw [hM] at hom HF
  have HM0 := Lib.hid hM
  clear hM
  have hs0 := H0.out.2
  have hsz := hb.size
  go_wp2_with fail
  refine (closed_c W0.heap.size B R C n cap M w1 hom hn hn2 HF.out hb.size).mono ?_
  rintro e w2 ⟨hb2, hk2, ⟨ok, rfl, hom2⟩ | ⟨ok, rfl⟩⟩
  · have HP := Lib.hid (And.intro (hb.trans hb2) (And.intro ok hom2))
    have k2' := fun o => (HP.out.1.cell (p := ⟨w.heap.size + 1 + 1, o, none⟩) (by show w.heap.size + 1 + 1 < _; omega)).trans (k2 o)
    have f2' := fun o => (HP.out.1.frozen (p := ⟨w.heap.size + 1 + 1, o, none⟩) (by show w.heap.size + 1 + 1 < _; omega)).trans (f2 o)
    have HS := Lib.hid hs0
    clear hb hb2 hk2 ok hom2 hom k0 k1 k2 f2 hs0 hsz
    go_wp2_with fail
    exact bodyPost_ret (v := .tuple #[.agg #[.slice (some ⟨B, 0, none⟩) n cap], .bool true]) (by simp [results, Try.results27, go_sem, *]) rfl ⟨(below_next H0.out.1 H0.out.1.size HP.out.1).setCell (by show w.heap.size ≤ w.heap.size + 1 + 1; omega) _, .inl ⟨by rw [HM0.out]; exact HP.out.2.1, B, R, C, cap, rfl, hcap, by rw [HM0.out]; exact (HP.out.2.2.lower (by have := HS.out; omega)).keep (by simp) (Below.heap_setCell _ ⟨w.heap.size + 1 + 1, 0, none⟩ _ _ (by have := HP.out.2.2.hB.1; have := HS.out; show B ≠ w.heap.size + 1 + 1; omega)) (fun i hi => Below.heap_setCell _ ⟨w.heap.size + 1 + 1, 0, none⟩ _ _ (by have := (HP.out.2.2.hR i hi).1; have := HS.out; show R i ≠ w.heap.size + 1 + 1; omega))⟩⟩
  · have HP := Lib.hid (And.intro (hb.trans hb2) ok)
    have k2' := fun o => (HP.out.1.cell (p := ⟨w.heap.size + 1 + 1, o, none⟩) (by show w.heap.size + 1 + 1 < _; omega)).trans (k2 o)
    have f2' := fun o => (HP.out.1.frozen (p := ⟨w.heap.size + 1 + 1, o, none⟩) (by show w.heap.size + 1 + 1 < _; omega)).trans (f2 o)
    clear hb hb2 hk2 ok hom k0 k1 k2 f2 hs0 hsz
    go_wp2_with fail
    exact bodyPost_ret (v := .tuple #[.agg #[.slice none 0 0], .bool false]) (by simp [results, Try.results27, go_sem, *]) rfl ⟨(below_next H0.out.1 H0.out.1.size HP.out.1).setCell (by show w.heap.size ≤ w.heap.size + 1 + 1; omega) _, .inr ⟨by rw [HM0.out]; exact HP.out.2, rfl⟩⟩
end Go.Proofs.Ytnopjijhbflfdaa.C
