/- zone.has, loose, Add, Forget, Move, Bound: walks. -/
import Derived.Test.YtdmphpkiclfhhaaZHas
import Derived.Deep.RegionHeld3
namespace Go.Proofs.Ytdmphpkiclfhhaa.Z
/-- Row and column i without bounds, as far as k. -/
def LM (m : M) (i k : Nat) : M := fun a b => if (a = i ∧ b < k ∧ b ≠ i) ∨ (b = i ∧ a < k ∧ a ≠ i) then 1099511627776 else m a b
theorem LM_none (m : M) (i n : Nat) : Alike m (LM m i 0) n := fun a b _ _ => by unfold LM; rw [if_neg (by omega)]
theorem LM_skip (m : M) (i n : Nat) : Alike (LM m i i) (LM m i (i + 1)) n := fun a b _ _ => by
  unfold LM
  (repeat' split) <;> omega
theorem LM_step (m : M) (i k n : Nat) (h : k ≠ i) : Alike (upd (upd (LM m i k) i k 1099511627776) k i 1099511627776) (LM m i (k + 1)) n := fun a b _ _ => by
  unfold upd LM
  (repeat' split) <;> omega
theorem LM_fit {m : M} {n : Nat} (i k : Nat) (h : Fit m n) : Fit (LM m i k) n := fun a b ha hb => by
  have := h a b ha hb
  unfold LM; split <;> omega
end Go.Proofs.Ytdmphpkiclfhhaa.Z
namespace Go.Proofs.Ytdmphpkiclfhhaa.C
open Go.RowKit
set_option linter.unusedSimpArgs false
set_option linter.unusedVariables false
def hasB (n : Nat) (i : Int) : Bool := decide (0 ≤ i ∧ i < n)
theorem zhasi_c (A : Option Addr) (n cap : Nat) (i : Int) (w : World) : Calls Try.prog 106 #[.agg #[.slice A n cap], .int .i64 i] w fun e w' => e = .returned (.bool (hasB n i)) ∧ Below w.heap.size w w' := by
  by_cases h : 0 ≤ i
  · have g1 : decide (0 ≤ i) = true := decide_eq_true h
    have e0 : hasB n i = decide (i < (n : Int)) := by unfold hasB; simp [h]
    rw [e0]
    clear e0
    go_enter Try.func106, Try.ntmps106
    go_wp2_with fail
    go_ret
    exact ⟨rfl, (by repeat' (first | exact Below.refl _ _ | (refine Below.alloc ?_ ?_ _) | (refine Below.setCell ?_ ?_ _) | (refine Below.drew ?_) | (refine below_next ?_ ?_ (by assumption)) | omega | (simp; done) | (simp; omega)))⟩
  · have g1 : decide (0 ≤ i) = false := decide_eq_false h
    have e0 : hasB n i = false := by unfold hasB; simp [h]
    rw [e0]
    clear e0
    go_enter Try.func106, Try.ntmps106
    go_wp2_with fail
    go_ret
    exact ⟨rfl, (by repeat' (first | exact Below.refl _ _ | (refine Below.alloc ?_ ?_ _) | (refine Below.setCell ?_ ?_ _) | (refine Below.drew ?_) | (refine below_next ?_ ?_ (by assumption)) | omega | (simp; done) | (simp; omega)))⟩
theorem zhasi_x (A : Option Addr) (n cap : Nat) (i : Int) (w : World) : Calls Try.prog 106 #[.agg #[.slice A n cap], .int .i64 i] w fun e w' => e = .returned (.bool (hasB n i)) ∧ w.alloc (.cells #[.slice A n cap] 31) = w' := by
  by_cases h : 0 ≤ i
  · have g1 : decide (0 ≤ i) = true := decide_eq_true h
    have e0 : hasB n i = decide (i < (n : Int)) := by unfold hasB; simp [h]
    rw [e0]
    clear e0
    go_enter Try.func106, Try.ntmps106
    go_wp2_with fail
    go_ret
    exact ⟨rfl, rfl⟩
  · have g1 : decide (0 ≤ i) = false := decide_eq_false h
    have e0 : hasB n i = false := by unfold hasB; simp [h]
    rw [e0]
    clear e0
    go_enter Try.func106, Try.ntmps106
    go_wp2_with fail
    go_ret
    exact ⟨rfl, rfl⟩
theorem has_in (A : Option Addr) (n cap i : Nat) (h : i < n) (w : World) : Calls Try.prog 106 #[.agg #[.slice A n cap], .int .i64 i] w fun e w' => e = .returned (.bool true) ∧ w.alloc (.cells #[.slice A n cap] 31) = w' := by
  have := zhasi_x A n cap i w
  rwa [show hasB n i = true from decide_eq_true ⟨by omega, by omega⟩] at this
/-- A matrix of the call's own has been changed in place. -/
def Changed (base B : Nat) (R C : Nat → Nat) (n : Nat) (M : Z.M) (w w' : World) : Prop := Kept R n w w' ∧ OM w' base B R C n M
set_option maxRecDepth 100000 in
set_option maxHeartbeats 6400000 in
theorem loose_c (base B : Nat) (R C : Nat → Nat) (n cap i : Nat) (m : Z.M) (w : World) (h : OM w base B R C n m) (hi : i < n) (hn2 : n ≤ 1000) :
    Calls Try.prog 107 #[.agg #[.slice (some ⟨B, 0, none⟩) n cap], .int .i64 i] w fun e w' => e = .returned (.tuple #[]) ∧ Changed base B R C n (Z.LM m i n) w w' := by
  have HO := Lib.hid h
  have HS := Lib.hid h.hB.2
  have HRs : Hid (∀ j, j < n → R j < w.heap.size) := Lib.hid (fun j hj => (h.hR j hj).2.1)
  clear h
  go_enter Try.func107, Try.ntmps107
  go_upto_region 1 with fail
  refine at_world (fun W => Hid (Below w.heap.size w W ∧ w.heap.size < W.heap.size ∧ (∀ o, W.cell? ⟨w.heap.size, o, none⟩ = [Value.slice (some ⟨B, 0, none⟩) n cap][o]?))) (Lib.hid ⟨(by repeat' (first | exact Below.refl _ _ | (refine Below.alloc ?_ ?_ _) | (refine Below.setCell ?_ ?_ _) | (refine Below.drew ?_) | (refine below_next ?_ ?_ (by assumption)) | omega | (simp; done) | (simp; omega))), by simp, (by intro o; simp [go_sem])⟩) ?_
  intro W0 H0
  have k0 := H0.out.2.2
  go_wp2_with fail
  clear k0
  go_loopw [8] (fun v wr => ∃ k : Nat, k ≤ n ∧ v = .int .i64 k ∧ OM wr base B R C n (Z.LM m i k) ∧ Kept R n W0 wr) (fun v _ => n - (intOf v).toNat)
  case atStart => exact ⟨0, by omega, rfl, (HO.out.below H0.out.1).alike (Z.LM_none m i n), Kept.refl _ _ _⟩
  case round =>
    obtain ⟨k, hk, rfl, hom, hkept⟩ := hrel
    by_cases hlt : k < n
    · by_cases e : k = i
      · have g1 : ((k : Int) != (i : Int)) = false := by simp; omega
        have HM : Hid (OM wr base B R C n (Z.LM m i (k + 1)) ∧ Kept R n W0 wr) := Lib.hid ⟨hom.alike (by subst e; exact Z.LM_skip m k n), hkept⟩
        clear hom hkept e
        go_wp2_with fail
        all_goals exact ⟨⟨k + 1, by omega, by go_num, HM.out⟩, by simp [intOf]; omega⟩
      · have g1 : ((k : Int) != (i : Int)) = true := by simp; omega
        have c1 := hom.outer i hi
        have c2 := hom.outer k hlt
        have c3 := hom.inner i k hi hlt
        have c4 := hom.inner k i hlt hi
        have f3 := hom.frz i k hi hlt
        have f4 := hom.frz k i hlt hi
        have k0 := fun o => (hkept.cell (p := ⟨w.heap.size, o, none⟩) H0.out.2.1 (fun j hj => by have := HRs.out j hj; show w.heap.size ≠ _; omega)).trans (H0.out.2.2 o)
        have n1 : R i ≠ B := (hom.hR i hi).2.2.1
        have n2 : R k ≠ B := (hom.hR k hlt).2.2.1
        have n3 : R i ≠ w.heap.size := by have := HRs.out i hi; omega
        have n4 : R k ≠ w.heap.size := by have := HRs.out k hlt; omega
        have n5 : R i ≠ R k := fun q => e (hom.inj i k hi hlt q).symm
        have n5' : R k ≠ R i := fun q => e (hom.inj k i hlt hi q)
        have HM := Lib.hid (And.intro hom hkept)
        have HE := Lib.hid e
        have hi0 : (0 : Int) ≤ (i : Int) := by omega
        have hi1 : (i : Int) < (n : Int) := by omega
        have hk0 : (0 : Int) ≤ (k : Int) := by omega
        have hk1 : (k : Int) < (n : Int) := by omega
        obtain ⟨wo, rfl⟩ : ∃ wo : World, wo = wr := ⟨_, rfl⟩
        have k00 := k0 0
        simp at k00
        obtain ⟨v3, hv3⟩ : ∃ v, Z.LM m i k i k = v := ⟨_, rfl⟩
        obtain ⟨v4, hv4⟩ : ∃ v, Z.LM m i k k i = v := ⟨_, rfl⟩
        rw [hv3] at c3
        rw [hv4] at c4
        clear hom hkept e k0 hv3 hv4
        go_upto_region 5 with fail
        go_region_held3 (fun w' => w'.cell? ⟨w.heap.size, 0, none⟩ = some (.slice (some ⟨B, 0, none⟩) n cap) ∧ w'.cell? ⟨B, i, none⟩ = some (.slice (some ⟨R i, 0, none⟩) n (C i)) ∧ w'.cell? ⟨B, k, none⟩ = some (.slice (some ⟨R k, 0, none⟩) n (C k))) (go_keep) (fail)
        go_wp2_with fail
        all_goals exact ⟨⟨k + 1, by omega, by go_num, ((HM.out.1.drew.set hi hlt _).set hlt hi _).alike (Z.LM_step m i k n HE.out), (HM.out.2.drew.setCell hi _ _).setCell hlt _ _⟩, by simp [intOf]; omega⟩
    · obtain rfl : k = n := by omega
      have HM := Lib.hid (And.intro hom hkept)
      clear hom hkept
      go_wp2_with fail
      go_end0
      exact ⟨rfl, ⟨H0.out.1.os ▸ HM.out.2.os, H0.out.1.tape ▸ HM.out.2.tape, H0.out.1.output ▸ HM.out.2.output, Nat.le_trans H0.out.1.size HM.out.2.size, fun b hl hb => (HM.out.2.block b (Nat.lt_of_lt_of_le hl H0.out.1.size) hb).trans (H0.out.1.block b hl)⟩, HM.out.1⟩
/-- Behind the copy: the boxes and the copy. -/
def Cloned (w : World) (B : Nat) (R C : Nat → Nat) (n cap : Nat) (M : Z.M) (W : World) : Prop :=
  Below w.heap.size w W ∧ OM W (w.heap.size + 1 + 1) B R C n M ∧ w.heap.size + 1 < W.heap.size ∧ (∀ o, W.cell? ⟨w.heap.size, o, none⟩ = [Value.slice (some ⟨B, 0, none⟩) n cap][o]?) ∧ (∀ o, W.cell? ⟨w.heap.size + 1, o, none⟩ = [Value.slice none 0 0][o]?) ∧ (∀ o, W.frozen? ⟨w.heap.size + 1, o, none⟩ = false)
theorem Cloned.below {w W W' : World} {B n cap : Nat} {R C : Nat → Nat} {M : Z.M} (h : Cloned w B R C n cap M W) (hb : Below W.heap.size W W') : Cloned w B R C n cap M W' :=
  ⟨below_next h.1 h.1.size hb, h.2.1.below hb, Nat.lt_of_lt_of_le h.2.2.1 hb.size, fun o => (hb.cell (p := ⟨w.heap.size, o, none⟩) (by have := h.2.2.1; show w.heap.size < _; omega)).trans (h.2.2.2.1 o), fun o => (hb.cell (p := ⟨w.heap.size + 1, o, none⟩) h.2.2.1).trans (h.2.2.2.2.1 o), fun o => (hb.frozen (p := ⟨w.heap.size + 1, o, none⟩) h.2.2.1).trans (h.2.2.2.2.2 o)⟩
theorem Cloned.changed {w W W' : World} {B n cap : Nat} {R C : Nat → Nat} {M M' : Z.M} (h : Cloned w B R C n cap M W) (hk : Kept R n W W') (hm : OM W' (w.heap.size + 1 + 1) B R C n M') : Cloned w B R C n cap M' W' :=
  ⟨hk.below (fun i hi => by have := (h.2.1.hR i hi).1; omega) h.1 h.1.size, hm, Nat.lt_of_lt_of_le h.2.2.1 hk.size, fun o => (hk.cell (p := ⟨w.heap.size, o, none⟩) (by have := h.2.2.1; show w.heap.size < _; omega) (fun i hi => by have := (h.2.1.hR i hi).1; show w.heap.size ≠ _; omega)).trans (h.2.2.2.1 o), fun o => (hk.cell (p := ⟨w.heap.size + 1, o, none⟩) h.2.2.1 (fun i hi => by have := (h.2.1.hR i hi).1; show w.heap.size + 1 ≠ _; omega)).trans (h.2.2.2.2.1 o), fun o => (hk.frozen (p := ⟨w.heap.size + 1, o, none⟩) h.2.2.1 (fun i hi => by have := (h.2.1.hR i hi).1; show w.heap.size + 1 ≠ _; omega)).trans (h.2.2.2.2.2 o)⟩
/-- The copy is laid into the first box. -/
theorem cloned_at {w W0 w1 : World} {B n cap : Nat} {R C : Nat → Nat} {M : Z.M} (h0 : Below w.heap.size w W0 ∧ W0.heap.size = w.heap.size + 1 + 1) (k0 : ∃ v, W0.cell? ⟨w.heap.size, 0, none⟩ = some v) (k0' : ∀ o, o ≠ 0 → W0.cell? ⟨w.heap.size, o, none⟩ = none) (k1 : ∀ o, W0.cell? ⟨w.heap.size + 1, o, none⟩ = [Value.slice none 0 0][o]?) (f1 : ∀ o, W0.frozen? ⟨w.heap.size + 1, o, none⟩ = false) (hom : OM w1 W0.heap.size B R C n M) (hb : Below W0.heap.size W0 w1) :
    Cloned w B R C n cap M (w1.setCell ⟨w.heap.size, 0, none⟩ (.slice (some ⟨B, 0, none⟩) n cap)) := by
  have hs := hb.size
  rw [h0.2] at hom
  have hB := hom.hB.1
  have hc : ∀ o, w1.cell? ⟨w.heap.size, o, none⟩ = W0.cell? ⟨w.heap.size, o, none⟩ := fun o => hb.cell (p := ⟨w.heap.size, o, none⟩) (by show w.heap.size < _; omega)
  refine ⟨(below_next h0.1 h0.1.size hb).setCell (Nat.le_refl _) _, hom.keep (by simp) (Below.heap_setCell _ ⟨w.heap.size, 0, none⟩ _ _ (by show B ≠ w.heap.size; omega)) (fun i hi => Below.heap_setCell _ ⟨w.heap.size, 0, none⟩ _ _ (by have := (hom.hR i hi).1; show R i ≠ w.heap.size; omega)), by simp; omega, fun o => ?_, fun o => ?_, fun o => ?_⟩
  · by_cases e : o = 0
    · subst e
      obtain ⟨v, hv⟩ := k0
      exact World.cell?_setCell_same _ _ _ ((hc 0).trans hv)
    · rw [World.cell?_setCell_other _ _ _ _ (fun q => e (by injection q with _ q; exact q.symm)), hc o, k0' o e]
      cases o with
      | zero => exact absurd rfl e
      | succ o => rfl
  · rw [World.cell?_setCell_far _ _ _ _ (by show w.heap.size ≠ w.heap.size + 1; omega), hb.cell (p := ⟨w.heap.size + 1, o, none⟩) (by show w.heap.size + 1 < _; omega)]; exact k1 o
  · rw [World.frozen?_setCell, hb.frozen (p := ⟨w.heap.size + 1, o, none⟩) (by show w.heap.size + 1 < _; omega)]; exact f1 o
/-- The closed one is laid into the result's box. -/
theorem cloned_end {w W w2 : World} {B n cap : Nat} {R C : Nat → Nat} {M N : Z.M} (h : Cloned w B R C n cap M W) (hb2 : Below (w.heap.size + 1 + 1) W w2) (hk : Kept R n W w2) : Below w.heap.size w w2 ∧ (∀ o, w2.cell? ⟨w.heap.size + 1, o, none⟩ = [Value.slice none 0 0][o]?) ∧ (∀ o, w2.frozen? ⟨w.heap.size + 1, o, none⟩ = false) :=
  ⟨h.1.trans (hb2.mono (by omega)), fun o => (hb2.cell (p := ⟨w.heap.size + 1, o, none⟩) (by show w.heap.size + 1 < _; omega)).trans (h.2.2.2.2.1 o), fun o => (hb2.frozen (p := ⟨w.heap.size + 1, o, none⟩) (by show w.heap.size + 1 < _; omega)).trans (h.2.2.2.2.2 o)⟩
theorem newm2_ok {w w2 : World} {B n cap : Nat} {R C : Nat → Nat} {M : Z.M} (hb : Below w.heap.size w w2) (ok : Z.okM M n = true) (hcap : n ≤ cap) (hom : OM w2 (w.heap.size + 1 + 1) B R C n M) (x : Value) :
    NewM2 w n M (.returned (.tuple #[.agg #[.slice (some ⟨B, 0, none⟩) n cap], .bool true])) (w2.setCell ⟨w.heap.size + 1, 0, none⟩ x) :=
  ⟨hb.setCell (by show w.heap.size ≤ w.heap.size + 1; omega) _, .inl ⟨ok, B, R, C, cap, rfl, hcap, (hom.lower (by omega)).keep (by simp) (Below.heap_setCell _ ⟨w.heap.size + 1, 0, none⟩ _ _ (by have := hom.hB.1; show B ≠ w.heap.size + 1; omega)) (fun i hi => Below.heap_setCell _ ⟨w.heap.size + 1, 0, none⟩ _ _ (by have := (hom.hR i hi).1; show R i ≠ w.heap.size + 1; omega))⟩⟩
theorem newm2_no {w w2 : World} {n : Nat} {M : Z.M} (hb : Below w.heap.size w w2) (ok : Z.okM M n = false) (x : Value) :
    NewM2 w n M (.returned (.tuple #[.agg #[.slice none 0 0], .bool false])) (w2.setCell ⟨w.heap.size + 1, 0, none⟩ x) :=
  ⟨hb.setCell (by show w.heap.size ≤ w.heap.size + 1; omega) _, .inr ⟨ok, rfl⟩⟩
/-- What Add makes of the copy. -/
def addM (m : Z.M) (i j : Nat) (c : Int) : Z.M := Z.upd (Z.clampM m) i j (min (Z.clampM m i j) (max c (-1099511627776)))
theorem addM_fit (m : Z.M) (i j n : Nat) (c : Int) (hi : i < n) (hj : j < n) : Z.Fit (addM m i j c) n := by
  have h := Z.clampM_fit m n
  have := h i j hi hj
  exact h.upd (by omega) (by omega)
set_option maxRecDepth 100000 in
set_option maxHeartbeats 6400000 in
theorem zadd_c (a : Addr) (n cap i j : Nat) (c : Int) (m : Z.M) (w : World) (hn : 1 ≤ n) (hn2 : n ≤ 1000) (hm : RM w a n m) (hi : i < n) (hj : j < n) (hc : -2251799813685248 ≤ c ∧ c ≤ 2251799813685248) :
    Calls Try.prog 61 #[.agg #[.slice (some a) n cap], .int .i64 i, .int .i64 j, .int .i64 c] w (NewM2 w n (Z.closeM (addM m i j c) n)) := by
  have HM := Lib.hid hm
  clear hm
  go_enter Try.func61, Try.ntmps61
  go_upto_region 1 with fail
  refine at_world (fun W => Hid (Below w.heap.size w W ∧ W.heap.size = w.heap.size + 1 + 1) ∧ (∀ o, W.cell? ⟨w.heap.size, o, none⟩ = [Value.slice (some a) n cap][o]?) ∧ (∀ o, W.frozen? ⟨w.heap.size, o, none⟩ = false) ∧ Hid ((∀ o, W.cell? ⟨w.heap.size + 1, o, none⟩ = [Value.slice none 0 0][o]?) ∧ (∀ o, W.frozen? ⟨w.heap.size + 1, o, none⟩ = false))) ⟨Lib.hid ⟨(by repeat' (first | exact Below.refl _ _ | (refine Below.alloc ?_ ?_ _) | (refine Below.setCell ?_ ?_ _) | (refine Below.drew ?_) | (refine below_next ?_ ?_ (by assumption)) | omega | (simp; done) | (simp; omega))), by simp⟩, (by intro o; simp [go_sem]), (by intro o; simp [go_sem]), Lib.hid ⟨(by intro o; simp [go_sem]), (by intro o; simp [go_sem])⟩⟩ ?_
  intro W0 ⟨HB0, k0, f0, HK1⟩
  go_upto_region 2 with (go_at_call 84; refine (cloned_c a n cap m _ hn hn2 (HM.out.below HB0.out.1)).mono ?_; rintro e w1 ⟨B, R, C, cap', rfl, hcap, hom, hb⟩; have k0' := fun o => (hb.cell (p := ⟨w.heap.size, o, none⟩) (by have := HB0.out.2; show w.heap.size < _; omega)).trans (k0 o); have f0' := fun o => (hb.frozen (p := ⟨w.heap.size, o, none⟩) (by have := HB0.out.2; show w.heap.size < _; omega)).trans (f0 o))
  refine at_world (fun W => Hid (Cloned w B R C n cap' (Z.clampM m) W)) (Lib.hid (cloned_at HB0.out ⟨_, k0 0⟩ (fun o ho => by rw [k0 o]; cases o with | zero => exact absurd rfl ho | succ o => rfl) HK1.out.1 HK1.out.2 hom hb)) ?_
  clear k0 f0 k0' f0' hom hb HB0 HK1 HM w1 W0
  intro W1 H1
  have k0 := H1.out.2.2.2.1
  have hs1 : w.heap.size < W1.heap.size := by have := H1.out.2.2.1; omega
  have HA1 := fun W => has_in (some ⟨B, 0, none⟩) n cap' i hi W
  have HA2 := fun W => has_in (some ⟨B, 0, none⟩) n cap' j hj W
  go_upto_region 4 with (first | (go_at_call 106; refine (HA1 _).mono ?_; clear HA1; rintro e w' ⟨rfl, rfl⟩) | (go_at_call 106; refine (HA2 _).mono ?_; clear HA2; rintro e w' ⟨rfl, rfl⟩))
  refine at_world (fun W => Hid (Cloned w B R C n cap' (Z.clampM m) W)) (Lib.hid (H1.out.below (by repeat' (first | exact Below.refl _ _ | (refine Below.alloc ?_ ?_ _) | (refine Below.setCell ?_ ?_ _) | (refine Below.drew ?_) | (refine below_next ?_ ?_ (by assumption)) | omega | (simp; done) | (simp; omega))))) ?_
  clear k0 H1 hs1 W1
  intro W2 H2
  have hf := Z.clampM_fit m n i j hi hj
  have k0 := H2.out.2.2.2.1
  have c1 := H2.out.2.1.outer i hi
  have c2 := H2.out.2.1.inner i j hi hj
  have f2 := H2.out.2.1.frz i j hi hj
  have HF := Lib.hid (addM_fit m i j n c hi hj)
  have HE : Hid (addM m i j c = Z.upd (Z.clampM m) i j (min (Z.clampM m i j) (max c (-1099511627776)))) := Lib.hid rfl
  obtain ⟨M, hM⟩ : ∃ M, addM m i j c = M := ⟨_, rfl⟩
  rw [hM] at HF HE
  have HM0 := Lib.hid hM
  obtain ⟨v, hv⟩ : ∃ v, Z.clampM m i j = v := ⟨_, rfl⟩
  rw [hv] at c2 hf HE
  obtain ⟨x, hx⟩ : ∃ x : Int, (if c < -1099511627776 then -1099511627776 else c) = x := ⟨_, rfl⟩
  obtain ⟨y, hy⟩ : ∃ y : Int, (if x < v then x else v) = y := ⟨_, rfl⟩
  have HY : Hid (min v (max c (-1099511627776)) = y) := Lib.hid (by rw [← hy, ← hx]; (repeat' split) <;> omega)
  rw [HY.out] at HE
  have hi0 : (0 : Int) ≤ (i : Int) := by omega
  have hi1 : (i : Int) < (n : Int) := by omega
  have hj0 : (0 : Int) ≤ (j : Int) := by omega
  have hj1 : (j : Int) < (n : Int) := by omega
  clear hM hv HY hf
  go_still_tail 18, (by kernel_rfl)
  go_upto_region 5 with fail
  refine at_world (fun W => Hid (Cloned w B R C n cap' M W)) (Lib.hid (H2.out.changed ((Kept.refl R n W2).drew.setCell hi j _) (by rw [HE.out]; exact H2.out.2.1.drew.set hi hj y))) ?_
  clear k0 c1 c2 f2 HE hx hy H2 W2
  intro W3 H3
  have k0 := H3.out.2.2.2.1
  go_wp2_with (go_at_call 85; refine (closed_c (w.heap.size + 1 + 1) B R C n cap' M _ H3.out.2.1 hn hn2 HF.out (by have := H3.out.2.2.1; omega)).mono ?_; rintro e w2 ⟨hb2, hk2, hend⟩; have he := cloned_end (N := M) H3.out hb2 hk2; obtain ⟨hbw, q1, q2⟩ := he; rcases hend with ⟨ok, rfl, hom2⟩ | ⟨ok, rfl⟩)
  · exact bodyPost_ret (v := .tuple #[.agg #[.slice (some ⟨B, 0, none⟩) n cap'], .bool true]) (by simp [results, Try.results61, go_sem, *]) rfl (by rw [HM0.out]; exact newm2_ok hbw ok hcap hom2 _)
  · exact bodyPost_ret (v := .tuple #[.agg #[.slice none 0 0], .bool false]) (by simp [results, Try.results61, go_sem, *]) rfl (by rw [HM0.out]; exact newm2_no hbw ok _)
/-- What Forget makes of the copy. -/
def forgetM (m : Z.M) (i n : Nat) (t : Int) : Z.M := Z.upd (Z.upd (Z.LM (Z.clampM m) i n) i 0 (maxT t)) 0 i (-minT t)
theorem maxT_bd (t : Int) : 0 ≤ maxT t ∧ maxT t ≤ 4294967295 := by unfold maxT; (repeat' split) <;> omega
theorem minT_bd (t : Int) : -2147483648 ≤ minT t ∧ minT t ≤ 0 := by unfold minT; (repeat' split) <;> omega
theorem forgetM_fit (m : Z.M) (i n : Nat) (t : Int) : Z.Fit (forgetM m i n t) n := by
  have h1 := maxT_bd t
  have h2 := minT_bd t
  exact ((Z.LM_fit i n (Z.clampM_fit m n)).upd (by omega) (by omega)).upd (by omega) (by omega)
set_option maxRecDepth 100000 in
set_option maxHeartbeats 6400000 in
theorem zforget_c (a : Addr) (n cap i : Nat) (t : Int) (m : Z.M) (w : World) (hn : 1 ≤ n) (hn2 : n ≤ 1000) (hm : RM w a n m) (hi : i < n) (hi2 : 1 ≤ i) :
    Calls Try.prog 59 #[.agg #[.slice (some a) n cap], .int .i64 i, .int .i64 t] w (NewM2 w n (Z.closeM (forgetM m i n t) n)) := by
  have HM := Lib.hid hm
  clear hm
  go_enter Try.func59, Try.ntmps59
  go_upto_region 1 with fail
  refine at_world (fun W => Hid (Below w.heap.size w W ∧ W.heap.size = w.heap.size + 1 + 1) ∧ (∀ o, W.cell? ⟨w.heap.size, o, none⟩ = [Value.slice (some a) n cap][o]?) ∧ (∀ o, W.frozen? ⟨w.heap.size, o, none⟩ = false) ∧ Hid ((∀ o, W.cell? ⟨w.heap.size + 1, o, none⟩ = [Value.slice none 0 0][o]?) ∧ (∀ o, W.frozen? ⟨w.heap.size + 1, o, none⟩ = false))) ⟨Lib.hid ⟨(by repeat' (first | exact Below.refl _ _ | (refine Below.alloc ?_ ?_ _) | (refine Below.setCell ?_ ?_ _) | (refine Below.drew ?_) | (refine below_next ?_ ?_ (by assumption)) | omega | (simp; done) | (simp; omega))), by simp⟩, (by intro o; simp [go_sem]), (by intro o; simp [go_sem]), Lib.hid ⟨(by intro o; simp [go_sem]), (by intro o; simp [go_sem])⟩⟩ ?_
  intro W0 ⟨HB0, k0, f0, HK1⟩
  go_upto_region 2 with (go_at_call 84; refine (cloned_c a n cap m _ hn hn2 (HM.out.below HB0.out.1)).mono ?_; rintro e w1 ⟨B, R, C, cap', rfl, hcap, hom, hb⟩; have k0' := fun o => (hb.cell (p := ⟨w.heap.size, o, none⟩) (by have := HB0.out.2; show w.heap.size < _; omega)).trans (k0 o); have f0' := fun o => (hb.frozen (p := ⟨w.heap.size, o, none⟩) (by have := HB0.out.2; show w.heap.size < _; omega)).trans (f0 o))
  refine at_world (fun W => Hid (Cloned w B R C n cap' (Z.clampM m) W)) (Lib.hid (cloned_at HB0.out ⟨_, k0 0⟩ (fun o ho => by rw [k0 o]; cases o with | zero => exact absurd rfl ho | succ o => rfl) HK1.out.1 HK1.out.2 hom hb)) ?_
  clear k0 f0 k0' f0' hom hb HB0 HK1 HM w1 W0
  intro W1 H1
  have k0 := H1.out.2.2.2.1
  have hs1 : w.heap.size < W1.heap.size := by have := H1.out.2.2.1; omega
  have HA1 := fun W => has_in (some ⟨B, 0, none⟩) n cap' i hi W
  have g0 : ((i : Int) == 0) = false := by simp; omega
  have LC := fun W (hb : Below W1.heap.size W1 W) => loose_c (w.heap.size + 1 + 1) B R C n cap' i (Z.clampM m) W (H1.out.2.1.below hb) hi hn2
  go_upto_region 5 with (first | (go_at_call 106; refine (HA1 _).mono ?_; clear HA1; rintro e w' ⟨rfl, rfl⟩) | (go_at_call 107; refine (LC _ (by repeat' (first | exact Below.refl _ _ | (refine Below.alloc ?_ ?_ _) | (refine Below.setCell ?_ ?_ _) | (refine Below.drew ?_) | (refine below_next ?_ ?_ (by assumption)) | omega | (simp; done) | (simp; omega)))).mono ?_; rintro e w2 ⟨rfl, hk2, hom2⟩))
  refine at_world (fun W => Hid (Cloned w B R C n cap' (Z.LM (Z.clampM m) i n) W)) (Lib.hid ((H1.out.below (by repeat' (first | exact Below.refl _ _ | (refine Below.alloc ?_ ?_ _) | (refine Below.setCell ?_ ?_ _) | (refine Below.drew ?_) | (refine below_next ?_ ?_ (by assumption)) | omega | (simp; done) | (simp; omega)))).changed hk2 hom2)) ?_
  clear k0 H1 hs1 LC hk2 hom2 w2 W1 g0
  intro W2 H2
  have k00 := H2.out.2.2.2.1 0
  simp at k00
  have hne : i ≠ 0 := by omega
  have c1 := H2.out.2.1.outer i hi
  have c2 := H2.out.2.1.outer 0 (by omega)
  have c3 := H2.out.2.1.inner i 0 hi (by omega)
  have c4 := H2.out.2.1.inner 0 i (by omega) hi
  have f3 := H2.out.2.1.frz i 0 hi (by omega)
  have f4 := H2.out.2.1.frz 0 i (by omega) hi
  have n1 : R i ≠ B := (H2.out.2.1.hR i hi).2.2.1
  have n2 : R 0 ≠ B := (H2.out.2.1.hR 0 (by omega)).2.2.1
  have n3 : R i ≠ w.heap.size := by have := (H2.out.2.1.hR i hi).1; omega
  have n4 : R 0 ≠ w.heap.size := by have := (H2.out.2.1.hR 0 (by omega)).1; omega
  have n5 : R i ≠ R 0 := fun q => hne (H2.out.2.1.inj i 0 hi (by omega) q)
  have n5' : R 0 ≠ R i := fun q => n5 q.symm
  have hi0 : (0 : Int) ≤ (i : Int) := by omega
  have hi1 : (i : Int) < (n : Int) := by omega
  have hz1 : (0 : Int) < (n : Int) := by omega
  have hz2 : 0 < n := by omega
  have HF := Lib.hid (forgetM_fit m i n t)
  have HE : Hid (forgetM m i n t = Z.upd (Z.upd (Z.LM (Z.clampM m) i n) i 0 (maxT t)) 0 i (-minT t)) := Lib.hid rfl
  obtain ⟨M, hM⟩ : ∃ M, forgetM m i n t = M := ⟨_, rfl⟩
  rw [hM] at HF HE
  have HM0 := Lib.hid hM
  obtain ⟨v3, hv3⟩ : ∃ v, Z.LM (Z.clampM m) i n i 0 = v := ⟨_, rfl⟩
  obtain ⟨v4, hv4⟩ : ∃ v, Z.LM (Z.clampM m) i n 0 i = v := ⟨_, rfl⟩
  rw [hv3] at c3
  rw [hv4] at c4
  have MX := fun W => max_c t W
  have MN := fun W => min_c t W
  have b1 := maxT_bd t
  have b2 := minT_bd t
  obtain ⟨x, hx⟩ : ∃ x, maxT t = x := ⟨_, rfl⟩
  obtain ⟨y, hy⟩ : ∃ x, minT t = x := ⟨_, rfl⟩
  simp only [hx] at MX b1 HE
  simp only [hy] at MN b2 HE
  have ey : IntKind.i64.wrap (-y) = -y := IntWalk.i64_in _ (by omega)
  clear hM hv3 hv4 hx hy b1 b2
  go_region_held3 (fun w' => w'.cell? ⟨w.heap.size, 0, none⟩ = some (.slice (some ⟨B, 0, none⟩) n cap') ∧ w'.cell? ⟨B, i, none⟩ = some (.slice (some ⟨R i, 0, none⟩) n (C i)) ∧ w'.cell? ⟨B, 0, none⟩ = some (.slice (some ⟨R 0, 0, none⟩) n (C 0))) (go_keep) ((first | (go_at_call 97; refine (MX _).mono ?_; rintro e w' ⟨rfl, rfl⟩) | (go_at_call 98; refine (MN _).mono ?_; rintro e w' ⟨rfl, rfl⟩)))
  go_upto_region 6 with fail
  refine at_world (fun W => Hid (Cloned w B R C n cap' M W)) (Lib.hid (H2.out.changed (((Kept.refl R n W2).drew.setCell hi 0 _).setCell (by omega) i _) (by rw [HE.out]; exact (H2.out.2.1.drew.set hi (by omega) x).set (by omega) hi (-y)))) ?_
  clear k00 c1 c2 c3 c4 f3 f4 n1 n2 n3 n4 n5 n5' HE H2 MX MN ey
  intro W3 H3
  have k0 := H3.out.2.2.2.1
  go_wp2_with (go_at_call 85; refine (closed_c (w.heap.size + 1 + 1) B R C n cap' M _ H3.out.2.1 hn hn2 HF.out (by have := H3.out.2.2.1; omega)).mono ?_; rintro e w2 ⟨hb2, hk2, hend⟩; have he := cloned_end (N := M) H3.out hb2 hk2; obtain ⟨hbw, q1, q2⟩ := he; rcases hend with ⟨ok, rfl, hom2⟩ | ⟨ok, rfl⟩)
  · exact bodyPost_ret (v := .tuple #[.agg #[.slice (some ⟨B, 0, none⟩) n cap'], .bool true]) (by simp [results, Try.results59, go_sem, *]) rfl (by rw [HM0.out]; exact newm2_ok hbw ok hcap hom2 _)
  · exact bodyPost_ret (v := .tuple #[.agg #[.slice none 0 0], .bool false]) (by simp [results, Try.results59, go_sem, *]) rfl (by rw [HM0.out]; exact newm2_no hbw ok _)
/-- What Move makes of the copy, by another one. -/
def moveM (m : Z.M) (i j n : Nat) (c : Int) : Z.M := Z.upd (Z.upd (Z.LM (Z.clampM m) i n) i j c) j i (-c)
theorem moveM_fit (m : Z.M) (i j n : Nat) (c : Int) (hc : -1099511627776 ≤ c ∧ c ≤ 1099511627776) : Z.Fit (moveM m i j n c) n :=
  ((Z.LM_fit i n (Z.clampM_fit m n)).upd (by omega) (by omega)).upd (by omega) (by omega)
set_option maxRecDepth 100000 in
set_option maxHeartbeats 6400000 in
theorem zmove_c (a : Addr) (n cap i j : Nat) (c : Int) (m : Z.M) (w : World) (hn : 1 ≤ n) (hn2 : n ≤ 1000) (hm : RM w a n m) (hi : i < n) (hi2 : 1 ≤ i) (hj : j < n) (hij : i ≠ j) (hc : -1099511627776 ≤ c ∧ c ≤ 1099511627776) :
    Calls Try.prog 62 #[.agg #[.slice (some a) n cap], .int .i64 i, .int .i64 j, .int .i64 c] w (NewM2 w n (Z.closeM (moveM m i j n c) n)) := by
  have HM := Lib.hid hm
  clear hm
  go_enter Try.func62, Try.ntmps62
  go_upto_region 1 with fail
  refine at_world (fun W => Hid (Below w.heap.size w W ∧ W.heap.size = w.heap.size + 1 + 1) ∧ (∀ o, W.cell? ⟨w.heap.size, o, none⟩ = [Value.slice (some a) n cap][o]?) ∧ (∀ o, W.frozen? ⟨w.heap.size, o, none⟩ = false) ∧ Hid ((∀ o, W.cell? ⟨w.heap.size + 1, o, none⟩ = [Value.slice none 0 0][o]?) ∧ (∀ o, W.frozen? ⟨w.heap.size + 1, o, none⟩ = false))) ⟨Lib.hid ⟨(by repeat' (first | exact Below.refl _ _ | (refine Below.alloc ?_ ?_ _) | (refine Below.setCell ?_ ?_ _) | (refine Below.drew ?_) | (refine below_next ?_ ?_ (by assumption)) | omega | (simp; done) | (simp; omega))), by simp⟩, (by intro o; simp [go_sem]), (by intro o; simp [go_sem]), Lib.hid ⟨(by intro o; simp [go_sem]), (by intro o; simp [go_sem])⟩⟩ ?_
  intro W0 ⟨HB0, k0, f0, HK1⟩
  go_upto_region 2 with (go_at_call 84; refine (cloned_c a n cap m _ hn hn2 (HM.out.below HB0.out.1)).mono ?_; rintro e w1 ⟨B, R, C, cap', rfl, hcap, hom, hb⟩; have k0' := fun o => (hb.cell (p := ⟨w.heap.size, o, none⟩) (by have := HB0.out.2; show w.heap.size < _; omega)).trans (k0 o); have f0' := fun o => (hb.frozen (p := ⟨w.heap.size, o, none⟩) (by have := HB0.out.2; show w.heap.size < _; omega)).trans (f0 o))
  refine at_world (fun W => Hid (Cloned w B R C n cap' (Z.clampM m) W)) (Lib.hid (cloned_at HB0.out ⟨_, k0 0⟩ (fun o ho => by rw [k0 o]; cases o with | zero => exact absurd rfl ho | succ o => rfl) HK1.out.1 HK1.out.2 hom hb)) ?_
  clear k0 f0 k0' f0' hom hb HB0 HK1 HM w1 W0
  intro W1 H1
  have k0 := H1.out.2.2.2.1
  have hs1 : w.heap.size < W1.heap.size := by have := H1.out.2.2.1; omega
  have HA1 := fun W => has_in (some ⟨B, 0, none⟩) n cap' i hi W
  have HA2 := fun W => has_in (some ⟨B, 0, none⟩) n cap' j hj W
  have g0 : ((i : Int) == 0) = false := by simp; omega
  have g1 : ((i : Int) != (j : Int)) = true := by simp; omega
  have LC := fun W (hb : Below W1.heap.size W1 W) => loose_c (w.heap.size + 1 + 1) B R C n cap' i (Z.clampM m) W (H1.out.2.1.below hb) hi hn2
  go_upto_region 6 with (first | (go_at_call 106; refine (HA1 _).mono ?_; clear HA1; rintro e w' ⟨rfl, rfl⟩) | (go_at_call 106; refine (HA2 _).mono ?_; clear HA2; rintro e w' ⟨rfl, rfl⟩) | (go_at_call 107; refine (LC _ (by repeat' (first | exact Below.refl _ _ | (refine Below.alloc ?_ ?_ _) | (refine Below.setCell ?_ ?_ _) | (refine Below.drew ?_) | (refine below_next ?_ ?_ (by assumption)) | omega | (simp; done) | (simp; omega)))).mono ?_; rintro e w2 ⟨rfl, hk2, hom2⟩))
  refine at_world (fun W => Hid (Cloned w B R C n cap' (Z.LM (Z.clampM m) i n) W)) (Lib.hid ((H1.out.below (by repeat' (first | exact Below.refl _ _ | (refine Below.alloc ?_ ?_ _) | (refine Below.setCell ?_ ?_ _) | (refine Below.drew ?_) | (refine below_next ?_ ?_ (by assumption)) | omega | (simp; done) | (simp; omega)))).changed hk2 hom2)) ?_
  clear k0 H1 hs1 LC hk2 hom2 w2 W1 g0 g1
  intro W2 H2
  have k00 := H2.out.2.2.2.1 0
  simp at k00
  have c1 := H2.out.2.1.outer i hi
  have c2 := H2.out.2.1.outer j hj
  have c3 := H2.out.2.1.inner i j hi hj
  have c4 := H2.out.2.1.inner j i hj hi
  have f3 := H2.out.2.1.frz i j hi hj
  have f4 := H2.out.2.1.frz j i hj hi
  have n1 : R i ≠ B := (H2.out.2.1.hR i hi).2.2.1
  have n2 : R j ≠ B := (H2.out.2.1.hR j hj).2.2.1
  have n3 : R i ≠ w.heap.size := by have := (H2.out.2.1.hR i hi).1; omega
  have n4 : R j ≠ w.heap.size := by have := (H2.out.2.1.hR j hj).1; omega
  have n5 : R i ≠ R j := fun q => hij (H2.out.2.1.inj i j hi hj q)
  have n5' : R j ≠ R i := fun q => n5 q.symm
  have hi0 : (0 : Int) ≤ (i : Int) := by omega
  have hi1 : (i : Int) < (n : Int) := by omega
  have hj0 : (0 : Int) ≤ (j : Int) := by omega
  have hj1 : (j : Int) < (n : Int) := by omega
  have HF := Lib.hid (moveM_fit m i j n c hc)
  have HE : Hid (moveM m i j n c = Z.upd (Z.upd (Z.LM (Z.clampM m) i n) i j c) j i (-c)) := Lib.hid rfl
  obtain ⟨M, hM⟩ : ∃ M, moveM m i j n c = M := ⟨_, rfl⟩
  rw [hM] at HF HE
  have HM0 := Lib.hid hM
  obtain ⟨v3, hv3⟩ : ∃ v, Z.LM (Z.clampM m) i n i j = v := ⟨_, rfl⟩
  obtain ⟨v4, hv4⟩ : ∃ v, Z.LM (Z.clampM m) i n j i = v := ⟨_, rfl⟩
  rw [hv3] at c3
  rw [hv4] at c4
  have ec : IntKind.i64.wrap (-c) = -c := IntWalk.i64_in _ (by omega)
  clear hM hv3 hv4
  go_region_held3 (fun w' => w'.cell? ⟨w.heap.size, 0, none⟩ = some (.slice (some ⟨B, 0, none⟩) n cap') ∧ w'.cell? ⟨B, i, none⟩ = some (.slice (some ⟨R i, 0, none⟩) n (C i)) ∧ w'.cell? ⟨B, j, none⟩ = some (.slice (some ⟨R j, 0, none⟩) n (C j))) (go_keep) (fail)
  go_upto_region 7 with fail
  refine at_world (fun W => Hid (Cloned w B R C n cap' M W)) (Lib.hid (H2.out.changed (((Kept.refl R n W2).drew.setCell hi j _).setCell hj i _) (by rw [HE.out]; exact (H2.out.2.1.drew.set hi hj c).set hj hi (-c)))) ?_
  clear k00 c1 c2 c3 c4 f3 f4 n1 n2 n3 n4 n5 n5' HE H2 ec
  intro W3 H3
  have k0 := H3.out.2.2.2.1
  go_wp2_with (go_at_call 85; refine (closed_c (w.heap.size + 1 + 1) B R C n cap' M _ H3.out.2.1 hn hn2 HF.out (by have := H3.out.2.2.1; omega)).mono ?_; rintro e w2 ⟨hb2, hk2, hend⟩; have he := cloned_end (N := M) H3.out hb2 hk2; obtain ⟨hbw, q1, q2⟩ := he; rcases hend with ⟨ok, rfl, hom2⟩ | ⟨ok, rfl⟩)
  · exact bodyPost_ret (v := .tuple #[.agg #[.slice (some ⟨B, 0, none⟩) n cap'], .bool true]) (by simp [results, Try.results62, go_sem, *]) rfl (by rw [HM0.out]; exact newm2_ok hbw ok hcap hom2 _)
  · exact bodyPost_ret (v := .tuple #[.agg #[.slice none 0 0], .bool false]) (by simp [results, Try.results62, go_sem, *]) rfl (by rw [HM0.out]; exact newm2_no hbw ok _)
end Go.Proofs.Ytdmphpkiclfhhaa.C
