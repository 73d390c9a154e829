/- zone.Widen: walk. -/
import Derived.Test.YtnopjijhbflfdaaZTop
namespace Go.Proofs.Ytnopjijhbflfdaa.C
open Go.RowKit
set_option linter.unusedSimpArgs false
set_option linter.unusedVariables false
/-- F as far as row k, place t; m behind. -/
def partM (F m : Z.M) (k t : Nat) : Z.M := fun i j => if i < k ∨ (i = k ∧ j < t) then F i j else m i j
theorem partM_start (F m : Z.M) (n : Nat) : Z.Alike m (partM F m 0 0) n := fun i j _ _ => by unfold partM; rw [if_neg (by omega)]
theorem partM_step (F m : Z.M) (k t n : Nat) : Z.Alike (Z.upd (partM F m k t) k t (F k t)) (partM F m k (t + 1)) n := fun i j _ _ => by
  unfold Z.upd partM
  by_cases e : i = k ∧ j = t
  · obtain ⟨rfl, rfl⟩ := e
    rw [if_pos ⟨rfl, rfl⟩, if_pos (by omega)]
  · rw [if_neg e]
    by_cases e2 : i < k ∨ (i = k ∧ j < t)
    · rw [if_pos e2, if_pos (by omega)]
    · rw [if_neg e2, if_neg (by omega)]
theorem partM_skip (F m : Z.M) (k t n : Nat) (h : F k t = m k t) : Z.Alike (partM F m k t) (partM F m k (t + 1)) n := fun i j _ _ => by
  unfold partM
  by_cases e2 : i < k ∨ (i = k ∧ j < t)
  · rw [if_pos e2, if_pos (by omega)]
  · rw [if_neg e2]
    by_cases e : i = k ∧ j = t
    · obtain ⟨rfl, rfl⟩ := e
      rw [if_pos (by omega)]; exact h.symm
    · rw [if_neg (by omega)]
theorem partM_at (F m : Z.M) (k t : Nat) : partM F m k t k t = m k t := by unfold partM; rw [if_neg (by omega)]
theorem partM_row (F m : Z.M) (k n : Nat) : Z.Alike (partM F m k n) (partM F m (k + 1) 0) n := fun i j _ hj => by
  unfold partM
  by_cases e2 : i < k ∨ (i = k ∧ j < n)
  · rw [if_pos e2, if_pos (by omega)]
  · rw [if_neg e2, if_neg (by omega)]
theorem partM_end (F m : Z.M) (n : Nat) : Z.Alike (partM F m n 0) F n := fun i j hi _ => by unfold partM; rw [if_pos (.inl hi)]
/-- What two are widened to, ahead of closing. -/
def widM (m m' T : Z.M) : Z.M := fun i j => if m' i j ≤ m i j then m i j else if i = 0 ∨ j = 0 then T i j else 1099511627776
theorem widM_fit {m m' T : Z.M} {n : Nat} (h : Z.Fit m n) (hT : Z.Fit T n) : Z.Fit (widM m m' T) n := fun i j hi hj => by
  have h1 := h i j hi hj
  have h2 := hT i j hi hj
  unfold widM
  (repeat' split) <;> omega
def WidIn (w : World) (b8 b9 : Nat) (b T0 : Addr) (n c2 c3 B cap : Nat) (R C : Nat → Nat) (M m2 T : Z.M) (W : World) : Prop :=
  Below w.heap.size w W ∧ OM W (w.heap.size + 3) B R C n M ∧ (w.heap.size + 2 < b8 ∧ b8 < W.heap.size ∧ b8 ≠ B ∧ ∀ i, i < n → R i ≠ b8) ∧ (∀ o, W.cell? ⟨b8, o, none⟩ = [Value.slice (some ⟨B, 0, none⟩) n cap][o]?) ∧ (∀ o, W.cell? ⟨w.heap.size + 1, o, none⟩ = [Value.slice (some b) n c2][o]?) ∧ (∀ o, W.cell? ⟨w.heap.size + 1 + 1, o, none⟩ = [Value.slice none 0 0][o]?) ∧ (∀ o, W.frozen? ⟨w.heap.size + 1 + 1, o, none⟩ = false) ∧ RM W b n m2 ∧ (b9 < W.heap.size ∧ ∀ i, i < n → R i ≠ b9) ∧ (∀ o, W.cell? ⟨b9, o, none⟩ = [Value.slice (some T0) n c3][o]?) ∧
  ∃ (B' : Nat) (R' C' : Nat → Nat), T0 = ⟨B', 0, none⟩ ∧ OM W 0 B' R' C' n T ∧ (∀ i, i < n → R i ≠ B' ∧ ∀ j, j < n → R i ≠ R' j)
theorem WidIn.changed {w W W' : World} {b8 b9 n c2 c3 B cap : Nat} {b T0 : Addr} {R C : Nat → Nat} {M M' m2 T : Z.M} (h : WidIn w b8 b9 b T0 n c2 c3 B cap R C M m2 T W) (h2 : RM w b n m2) (hk : Kept R n W W') (hm : OM W' (w.heap.size + 3) B R C n M') : WidIn w b8 b9 b T0 n c2 c3 B cap R C M' m2 T W' := by
  have hr : ∀ q, q ≤ w.heap.size + 2 → ∀ i, i < n → q ≠ R i := fun q hq i hi => by have := (h.2.1.hR i hi).1; omega
  have hl : w.heap.size + 2 < W.heap.size := by have := h.2.2.1; omega
  have hb : Below w.heap.size w W' := hk.below (fun i hi => by have := (h.2.1.hR i hi).1; omega) h.1 h.1.size
  obtain ⟨B', R', C', e, hT, hne⟩ := h.2.2.2.2.2.2.2.2.2.2
  exact ⟨hb, hm, ⟨h.2.2.1.1, Nat.lt_of_lt_of_le h.2.2.1.2.1 hk.size, h.2.2.1.2.2⟩, fun o => (hk.cell (p := ⟨b8, o, none⟩) h.2.2.1.2.1 (fun i hi => (h.2.2.1.2.2.2 i hi).symm)).trans (h.2.2.2.1 o), fun o => (hk.cell (p := ⟨w.heap.size + 1, o, none⟩) (by show w.heap.size + 1 < _; omega) (hr _ (by show w.heap.size + 1 ≤ _; omega))).trans (h.2.2.2.2.1 o), fun o => (hk.cell (p := ⟨w.heap.size + 1 + 1, o, none⟩) (by show w.heap.size + 1 + 1 < _; omega) (hr _ (by show w.heap.size + 1 + 1 ≤ _; omega))).trans (h.2.2.2.2.2.1 o), fun o => (hk.frozen (p := ⟨w.heap.size + 1 + 1, o, none⟩) (by show w.heap.size + 1 + 1 < _; omega) (hr _ (by show w.heap.size + 1 + 1 ≤ _; omega))).trans (h.2.2.2.2.2.2.1 o), h2.below hb, ⟨Nat.lt_of_lt_of_le h.2.2.2.2.2.2.2.2.1.1 hk.size, h.2.2.2.2.2.2.2.2.1.2⟩, fun o => (hk.cell (p := ⟨b9, o, none⟩) h.2.2.2.2.2.2.2.2.1.1 (fun i hi => (h.2.2.2.2.2.2.2.2.1.2 i hi).symm)).trans (h.2.2.2.2.2.2.2.2.2.1 o), B', R', C', e, hT.keep hk.size (hk.block B' hT.hB.2 (fun i hi => (hne i hi).1.symm)) (fun j hj => hk.block _ (hT.hR j hj).2.1 (fun i hi => ((hne i hi).2 j hj).symm)), hne⟩
set_option maxRecDepth 100000 in
set_option maxHeartbeats 6400000 in
theorem zwiden_c (a b : Addr) (n c1 c2 : Nat) (m1 m2 : Z.M) (A : Option Addr) (q ct : Nat) (ts : Nat → Int) (w : World) (hn : q + 1 = n) (hn2 : n ≤ 100) (h1 : RM w a n m1) (h2 : RM w b n m2) (h3 : RowC w A q ts) :
    Calls Try.prog 29 #[.agg #[.slice (some a) n c1], .agg #[.slice (some b) n c2], .slice A q ct] w (NewM2 w n (Z.closeM (widM (Z.clampM m1) m2 (Z.closeM (topM ts q) n)) n)) := by
  have HA := Lib.hid h1
  have HB := Lib.hid h2
  have HT := Lib.hid h3
  have HN := Lib.hid hn
  have hn1 : 1 ≤ n := by omega
  have hq : q ≤ 100 := by omega
  clear h1 h2 h3 hn
  go_enter Try.func29, Try.ntmps29
  go_upto_region 1 with fail
  refine at_world (fun W => Hid (Below w.heap.size w W ∧ W.heap.size = w.heap.size + 1 + 1 + 1 ∧ (∀ o, W.cell? ⟨w.heap.size + 1, o, none⟩ = [Value.slice (some b) n c2][o]?) ∧ (∀ o, W.cell? ⟨w.heap.size + 1 + 1, o, none⟩ = [Value.slice none 0 0][o]?) ∧ (∀ o, W.frozen? ⟨w.heap.size + 1 + 1, o, none⟩ = false)) ∧ (∀ o, W.cell? ⟨w.heap.size, o, none⟩ = [Value.slice (some a) n c1][o]?)) ⟨Lib.hid ⟨(by repeat' (first | exact Below.refl _ _ | (refine Below.alloc ?_ ?_ _) | (refine Below.setCell ?_ ?_ _) | (refine Below.drew ?_) | (refine below_next ?_ ?_ (by assumption)) | omega | (simp; done) | (simp; omega))), by simp, (by intro o; simp [go_sem]), (by intro o; simp [go_sem]), (by intro o; simp [go_sem])⟩, (by intro o; simp [go_sem])⟩ ?_
  intro W0 ⟨H0, k0⟩
  go_upto_region 2 with (go_at_call 38; refine (cloned_c a n c1 m1 _ hn1 (by omega) (HA.out.below H0.out.1)).mono ?_; rintro e w1 ⟨B, R, C, cap, rfl, hcap, hom, hb⟩)
  refine at_world (fun W => Hid (Below W0.heap.size W0 W ∧ OM W (w.heap.size + 3) B R C n (Z.clampM m1) ∧ (w.heap.size + 2 < w1.heap.size ∧ w1.heap.size < W.heap.size ∧ w1.heap.size ≠ B ∧ ∀ i, i < n → R i ≠ w1.heap.size) ∧ (∀ o, W.cell? ⟨w1.heap.size, o, none⟩ = [Value.slice (some ⟨B, 0, none⟩) n cap][o]?))) ?_ ?_
  · have hs := hb.size
    have hs0 := H0.out.2.1
    have ha : Below w1.heap.size w1 (w1.alloc (.cells #[.slice (some ⟨B, 0, none⟩) n cap] 24)) := (Below.refl _ _).alloc (Nat.le_refl _) _
    have hom' := hom
    rw [hs0] at hom'
    exact Lib.hid ⟨hb.trans (ha.mono hs), hom'.below ha, ⟨by omega, by simp, by have := hom.hB.2; omega, fun i hi => by have := (hom.hR i hi).2.1; omega⟩, (by intro o; simp [go_sem])⟩
  obtain ⟨b8, hb8⟩ : ∃ b, w1.heap.size = b := ⟨_, rfl⟩
  simp only [hb8]
  clear hom hb k0 HA hb8 w1
  intro W1 H1
  have TC := top_c A q ct ts W1 (HT.out.below (below_next H0.out.1 H0.out.1.size H1.out.1)) hq
  rw [HN.out] at TC
  have HTC := Lib.hid TC
  clear TC
  go_upto_region 3 with (go_at_call 24; refine (HTC.out).mono ?_; rintro e w2 ⟨B', R', C', c3, rfl, hcap3, hom3, hb3⟩)
  refine at_world (fun W => Hid (WidIn w b8 w2.heap.size b ⟨B', 0, none⟩ n c2 c3 B cap R C (Z.clampM m1) m2 (Z.closeM (topM ts q) n) W)) ?_ ?_
  · have hs := hb3.size
    have hs1 := H1.out.1.size
    have hs0 := H0.out.2.1
    have ha : Below w2.heap.size w2 (w2.alloc (.cells #[.slice (some ⟨B', 0, none⟩) n c3] 24)) := (Below.refl _ _).alloc (Nat.le_refl _) _
    have hw2 : Below W1.heap.size W1 (w2.alloc (.cells #[.slice (some ⟨B', 0, none⟩) n c3] 24)) := hb3.trans (ha.mono hs)
    have hw1 : Below W0.heap.size W0 (w2.alloc (.cells #[.slice (some ⟨B', 0, none⟩) n c3] 24)) := H1.out.1.trans (hw2.mono hs1)
    have hw : Below w.heap.size w (w2.alloc (.cells #[.slice (some ⟨B', 0, none⟩) n c3] 24)) := below_next H0.out.1 H0.out.1.size hw1
    exact Lib.hid ⟨hw, H1.out.2.1.below hw2, ⟨H1.out.2.2.1.1, Nat.lt_of_lt_of_le H1.out.2.2.1.2.1 hw2.size, H1.out.2.2.1.2.2⟩, fun o => (hw2.cell (p := ⟨b8, o, none⟩) H1.out.2.2.1.2.1).trans (H1.out.2.2.2 o), fun o => (hw1.cell (p := ⟨w.heap.size + 1, o, none⟩) (by show w.heap.size + 1 < _; omega)).trans (H0.out.2.2.1 o), fun o => (hw1.cell (p := ⟨w.heap.size + 1 + 1, o, none⟩) (by show w.heap.size + 1 + 1 < _; omega)).trans (H0.out.2.2.2.1 o), fun o => (hw1.frozen (p := ⟨w.heap.size + 1 + 1, o, none⟩) (by show w.heap.size + 1 + 1 < _; omega)).trans (H0.out.2.2.2.2 o), HB.out.below hw, ⟨by simp, fun i hi => by have := (H1.out.2.1.hR i hi).2.1; omega⟩, (by intro o; simp [go_sem]), B', R', C', rfl, (hom3.lower (Nat.zero_le _)).below ha, fun i hi => ⟨by have := (H1.out.2.1.hR i hi).2.1; have := hom3.hB.1; omega, fun j hj => by have := (H1.out.2.1.hR i hi).2.1; have := (hom3.hR j hj).1; omega⟩⟩
  obtain ⟨b9, hb9⟩ : ∃ b, w2.heap.size = b := ⟨_, rfl⟩
  simp only [hb9]
  clear hom3 hb3 hcap3 HTC H1 H0 HT hb9 w2 W1 W0
  intro W2 H2
  have k1 := H2.out.2.2.2.1
  have HFT : Hid (Z.Fit (Z.closeM (topM ts q) n) n) := Lib.hid (Z.closeM_fit (topM_fit ts q n))
  have HFM : Hid (Z.Fit (Z.clampM m1) n) := Lib.hid (Z.clampM_fit m1 n)
  obtain ⟨T, hT⟩ : ∃ T, Z.closeM (topM ts q) n = T := ⟨_, rfl⟩
  obtain ⟨m, hm⟩ : ∃ m, Z.clampM m1 = m := ⟨_, rfl⟩
  rw [hT] at H2 HFT
  rw [hm] at H2 HFM
  have HM0 : Hid (Z.closeM (widM (Z.clampM m1) m2 (Z.closeM (topM ts q) n)) n = Z.closeM (widM m m2 T) n) := Lib.hid (by rw [hm, hT])
  have HF := Lib.hid (widM_fit (m' := m2) HFM.out HFT.out)
  clear hm hT HFM HFT
  go_wp2_with fail
  clear k1
  go_loopw [20] (fun v wr => ∃ k : Nat, k ≤ n ∧ v = .int .i64 k ∧ WidIn w b8 b9 b ⟨B', 0, none⟩ n c2 c3 B cap R C (partM (widM m m2 T) m k 0) m2 T wr) (fun v _ => n - (intOf v).toNat)
  case atStart => exact ⟨0, by omega, rfl, H2.out.1, H2.out.2.1.alike (partM_start _ _ _), H2.out.2.2⟩
  case round =>
    obtain ⟨k, hk, rfl, hbi⟩ := hrel
    have HI := Lib.hid hbi
    clear hbi
    obtain ⟨wo, rfl⟩ : ∃ wo : World, wo = wr := ⟨_, rfl⟩
    by_cases hlt : k < n
    · have c1 := HI.out.2.1.outer k hlt
      have hk0 : (0 : Int) ≤ (k : Int) := by omega
      have hk1 : (k : Int) < (n : Int) := by omega
      go_wp2_with fail
      clear c1
      go_loopw [27] (fun v wr => ∃ t : Nat, t ≤ n ∧ v = .int .i64 t ∧ WidIn w b8 b9 b ⟨B', 0, none⟩ n c2 c3 B cap R C (partM (widM m m2 T) m k t) m2 T wr) (fun v _ => n - (intOf v).toNat)
      case atStart => exact ⟨0, by omega, rfl, HI.out⟩
      case round =>
        obtain ⟨t, ht, rfl, hbi⟩ := hrel
        have HJ := Lib.hid hbi
        clear hbi
        by_cases hlu : t < n
        · obtain ⟨Rb, Cb, q1, q2⟩ := HJ.out.2.2.2.2.2.2.2.1
          have c2' := HJ.out.2.1.inner k t hlt hlu
          rw [partM_at] at c2'
          have f2 := HJ.out.2.1.frz k t hlt hlu
          have c3' := (q1 k hlt).1
          have c4 := q2 k t hlt hlu
          have k1 := HJ.out.2.2.2.2.1
          have hl1 : w.heap.size + 1 < wr.heap.size := by have := HJ.out.2.2.1; omega
          have ht0 : (0 : Int) ≤ (t : Int) := by omega
          have ht1 : (t : Int) < (n : Int) := by omega
          have HS := Lib.hid (partM_step (widM m m2 T) m k t n)
          have HSK := Lib.hid (partM_skip (widM m m2 T) m k t n)
          have HV : Hid (widM m m2 T k t = if m2 k t ≤ m k t then m k t else if k = 0 ∨ t = 0 then T k t else 1099511627776) := Lib.hid rfl
          obtain ⟨x, hx⟩ : ∃ x, m k t = x := ⟨_, rfl⟩
          obtain ⟨y, hy⟩ : ∃ x, m2 k t = x := ⟨_, rfl⟩
          rw [hx] at c2' HSK HV
          rw [hy] at c4 HV
          clear hx hy q1 q2
          obtain ⟨wi, rfl⟩ : ∃ wi : World, wi = wr := ⟨_, rfl⟩
          have d1 := fun (x' : WIn (Below wi.heap.size wi)) => cell_later x'.h c2'
          have d2 := fun (x' : WIn (Below wi.heap.size wi)) => cell_later x'.h c3'
          have d3 := fun (x' : WIn (Below wi.heap.size wi)) => cell_later x'.h c4
          have d4 := fun (x' : WIn (Below wi.heap.size wi)) (o : Nat) => (x'.h.cell (p := ⟨w.heap.size + 1, o, none⟩) hl1).trans (k1 o)
          clear c2' c3' c4 k1
          by_cases hxy : y ≤ x
          · have g1 : decide (y ≤ x) = true := decide_eq_true hxy
            have hv := HV.out
            rw [if_pos hxy] at hv
            have HA2 := Lib.hid (HSK.out hv)
            clear hxy hv
            go_upto_region 10 with fail
            refine region_in (Below wi.heap.size wi) (by kernel_rfl) (by kernel_rfl) (Below.refl _ _).drew (fun inst => ?_)
            iterate 14 (go_big_quiet_step (fail))
            refine wpQuiet_nil ?_
            intro wd hbd
            clear d1 d2 d3 d4 f2
            go_wp2_with fail
            all_goals exact ⟨⟨t + 1, by omega, by go_num, HJ.out.changed HB.out ((Kept.refl R n wi).grow hbd) ((HJ.out.2.1.below hbd).alike HA2.out)⟩, by simp [intOf]; omega⟩
          · have g1 : decide (y ≤ x) = false := decide_eq_false hxy
            have hv := HV.out
            rw [if_neg hxy] at hv
            by_cases hz : k = 0 ∨ t = 0
            · rw [if_pos hz] at hv
              rw [hv] at HS
              have HZ := Lib.hid hz
              obtain ⟨B2, R2, C2, e2, hT2, _⟩ := HJ.out.2.2.2.2.2.2.2.2.2.2
              have eB : B' = B2 := by injection e2
              subst eB
              have c5 := hT2.outer k hlt
              have c6 := hT2.inner k t hlt hlu
              have k9 := HJ.out.2.2.2.2.2.2.2.2.2.1
              have hl9 := HJ.out.2.2.2.2.2.2.2.2.1.1
              obtain ⟨z, hz'⟩ : ∃ x, T k t = x := ⟨_, rfl⟩
              rw [hz'] at c6 HS
              clear hv hxy hz e2 hT2 hz'
              have HC5 := Lib.hid (And.intro c5 (And.intro c6 k9))
              clear c5 c6 k9
              go_upto_region 10 with fail
              refine region_in (Below wi.heap.size wi) (by kernel_rfl) (by kernel_rfl) (Below.refl _ _).drew (fun inst => ?_)
              iterate 14 (go_big_quiet_step (fail))
              refine wpQuiet_nil ?_
              intro wd hbd
              have c5 := cell_later hbd HC5.out.1
              have c6 := cell_later hbd HC5.out.2.1
              have k9 := fun o => (hbd.cell (p := ⟨b9, o, none⟩) hl9).trans (HC5.out.2.2 o)
              have f4 : wd.frozen? ⟨R k, t, none⟩ = false := by rw [hbd.frozen (p := ⟨R k, t, none⟩) (HJ.out.2.1.hR k hlt).2.1]; exact f2
              obtain ⟨v4, k4⟩ : ∃ v, wd.cell? ⟨R k, t, none⟩ = some v := ⟨_, (HJ.out.2.1.below hbd).inner k t hlt hlu⟩
              have HD := Lib.hid hbd
              clear d1 d2 d3 d4 f2 hbd
              by_cases ek : k = 0
              · have g2 : ((k : Int) == 0) = true := by simp; omega
                clear ek
                go_wp2_with fail
                all_goals exact ⟨⟨t + 1, by omega, by go_num, HJ.out.changed HB.out (((Kept.refl R n wi).grow HD.out).setCell hlt t _) (((HJ.out.2.1.below HD.out).set hlt hlu z).alike HS.out)⟩, by simp [intOf]; omega⟩
              · have g2 : ((k : Int) == 0) = false := by simp; omega
                have g3 : ((t : Int) == 0) = true := by have := HZ.out; simp; omega
                clear ek
                go_wp2_with fail
                all_goals exact ⟨⟨t + 1, by omega, by go_num, HJ.out.changed HB.out (((Kept.refl R n wi).grow HD.out).setCell hlt t _) (((HJ.out.2.1.below HD.out).set hlt hlu z).alike HS.out)⟩, by simp [intOf]; omega⟩
            · rw [if_neg hz] at hv
              rw [hv] at HS
              have g2 : ((k : Int) == 0) = false := by simp; omega
              have g3 : ((t : Int) == 0) = false := by simp; omega
              clear hv hxy hz
              go_upto_region 10 with fail
              refine region_in (Below wi.heap.size wi) (by kernel_rfl) (by kernel_rfl) (Below.refl _ _).drew (fun inst => ?_)
              iterate 14 (go_big_quiet_step (fail))
              refine wpQuiet_nil ?_
              intro wd hbd
              have f4 : wd.frozen? ⟨R k, t, none⟩ = false := by rw [hbd.frozen (p := ⟨R k, t, none⟩) (HJ.out.2.1.hR k hlt).2.1]; exact f2
              obtain ⟨v4, k4⟩ : ∃ v, wd.cell? ⟨R k, t, none⟩ = some v := ⟨_, (HJ.out.2.1.below hbd).inner k t hlt hlu⟩
              have HD := Lib.hid hbd
              clear d1 d2 d3 d4 f2 hbd
              go_wp2_with fail
              all_goals exact ⟨⟨t + 1, by omega, by go_num, HJ.out.changed HB.out (((Kept.refl R n wi).grow HD.out).setCell hlt t _) (((HJ.out.2.1.below HD.out).set hlt hlu 1099511627776).alike HS.out)⟩, by simp [intOf]; omega⟩
        · obtain rfl : t = n := by omega
          have HJ2 : Hid (WidIn w b8 b9 b ⟨B', 0, none⟩ t c2 c3 B cap R C (partM (widM m m2 T) m (k + 1) 0) m2 T wr) := Lib.hid ⟨HJ.out.1, HJ.out.2.1.alike (partM_row _ _ _ _), HJ.out.2.2⟩
          clear ht hlu
          go_wp2_with fail
          all_goals exact ⟨⟨k + 1, by omega, by go_num, HJ2.out⟩, by simp [intOf]; omega⟩
    · obtain rfl : k = n := by omega
      have k1 := HI.out.2.2.2.1
      have HOM : Hid (OM wo (w.heap.size + 3) B R C k (widM m m2 T)) := Lib.hid (HI.out.2.1.alike (partM_end _ _ _))
      obtain ⟨M, hM⟩ : ∃ M, widM m m2 T = M := ⟨_, rfl⟩
      rw [hM] at HOM HF HM0
      have hs3 : w.heap.size + 3 ≤ wo.heap.size := by have := HI.out.2.2.1; omega
      clear hM hk hlt
      go_wp2_with fail
      refine (closed_c (w.heap.size + 3) B R C k cap M wo HOM.out hn1 (by omega) HF.out hs3).mono ?_
      rintro e w2 ⟨hb2, hk2, ⟨ok, rfl, hom2⟩ | ⟨ok, rfl⟩⟩
      · have HP := Lib.hid (And.intro hb2 (And.intro ok hom2))
        have k2' := fun o => (HP.out.1.cell (p := ⟨w.heap.size + 1 + 1, o, none⟩) (by show w.heap.size + 1 + 1 < _; omega)).trans (HI.out.2.2.2.2.2.1 o)
        have f2' := fun o => (HP.out.1.frozen (p := ⟨w.heap.size + 1 + 1, o, none⟩) (by show w.heap.size + 1 + 1 < _; omega)).trans (HI.out.2.2.2.2.2.2.1 o)
        clear hb2 hk2 ok hom2 k1 hs3
        go_wp2_with fail
        exact bodyPost_ret (v := .tuple #[.agg #[.slice (some ⟨B, 0, none⟩) k cap], .bool true]) (by simp [results, Try.results29, go_sem, *]) rfl ⟨(HI.out.1.trans (HP.out.1.mono (by omega))).setCell (by show w.heap.size ≤ w.heap.size + 1 + 1; omega) _, .inl ⟨by rw [HM0.out]; exact HP.out.2.1, B, R, C, cap, rfl, hcap, by rw [HM0.out]; exact (HP.out.2.2.lower (by omega)).keep (by simp) (Below.heap_setCell _ ⟨w.heap.size + 1 + 1, 0, none⟩ _ _ (by have := HP.out.2.2.hB.1; show B ≠ w.heap.size + 1 + 1; omega)) (fun i hi => Below.heap_setCell _ ⟨w.heap.size + 1 + 1, 0, none⟩ _ _ (by have := (HP.out.2.2.hR i hi).1; show R i ≠ w.heap.size + 1 + 1; omega))⟩⟩
      · have HP := Lib.hid (And.intro hb2 ok)
        have k2' := fun o => (HP.out.1.cell (p := ⟨w.heap.size + 1 + 1, o, none⟩) (by show w.heap.size + 1 + 1 < _; omega)).trans (HI.out.2.2.2.2.2.1 o)
        have f2' := fun o => (HP.out.1.frozen (p := ⟨w.heap.size + 1 + 1, o, none⟩) (by show w.heap.size + 1 + 1 < _; omega)).trans (HI.out.2.2.2.2.2.2.1 o)
        clear hb2 hk2 ok k1 hs3
        go_wp2_with fail
        exact bodyPost_ret (v := .tuple #[.agg #[.slice none 0 0], .bool false]) (by simp [results, Try.results29, go_sem, *]) rfl ⟨(HI.out.1.trans (HP.out.1.mono (by omega))).setCell (by show w.heap.size ≤ w.heap.size + 1 + 1; omega) _, .inr ⟨by rw [HM0.out]; exact HP.out.2, rfl⟩⟩
end Go.Proofs.Ytnopjijhbflfdaa.C
