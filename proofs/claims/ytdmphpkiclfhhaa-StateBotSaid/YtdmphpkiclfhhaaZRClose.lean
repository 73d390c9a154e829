/- The reference's plus and Close: walks. -/
import Derived.Test.YtdmphpkiclfhhaaZBuild
namespace Go.Proofs.Ytdmphpkiclfhhaa.Z
/-- What the reference's first loop has made: the rows below k, of row k the places below t, and its own place. -/
def rIP (m : M) (n k t : Nat) : M := fun i j => if i < k ∧ j < n then min (if i = j then min (m i j) 0 else m i j) 1099511627776 else if i = k ∧ j < t then min (if i = j then min (m i j) 0 else m i j) 1099511627776 else if i = k ∧ j = k then min (m i j) 0 else m i j
/-- The same, ahead of row k. -/
def rIR (m : M) (n k : Nat) : M := fun i j => if i < k ∧ j < n then min (if i = j then min (m i j) 0 else m i j) 1099511627776 else m i j
theorem rIP_start (m : M) (n k : Nat) : Alike (upd (rIR m n k) k k (min (rIR m n k k k) 0)) (rIP m n k 0) n := fun a b ha hb => by
  unfold upd rIP rIR
  by_cases e1 : a = k
  · subst e1
    by_cases e2 : b = a
    · subst e2; (repeat' split) <;> omega
    · (repeat' split) <;> omega
  · (repeat' split) <;> omega
theorem rIP_step (m : M) (n k t : Nat) (ht : t < n) : Alike (upd (rIP m n k t) k t (min (rIP m n k t k t) 1099511627776)) (rIP m n k (t + 1)) n := fun a b ha hb => by
  unfold upd rIP
  by_cases e1 : a = k
  · subst e1
    by_cases e2 : b = t
    · subst e2
      by_cases e3 : a = b
      · subst e3; (repeat' split) <;> omega
      · (repeat' split) <;> omega
    · (repeat' split) <;> omega
  · (repeat' split) <;> omega
theorem rIP_end (m : M) (n k : Nat) (_ : k < n) : Alike (rIP m n k n) (rIR m n (k + 1)) n := fun a b ha hb => by
  unfold rIP rIR
  (repeat' split) <;> omega
theorem rIR_all (m : M) (n : Nat) : Alike (rIR m n n) (rInit m n) n := fun a b ha hb => by unfold rIR rInit; rfl
theorem rIR_none (m : M) (n : Nat) : Alike m (rIR m n 0) n := fun a b ha hb => by unfold rIR; rw [if_neg (by omega)]
theorem rInit_fit {m : M} {n : Nat} (h : Fit m n) : Fit (rInit m n) n := fun i j hi hj => by
  have := h i j hi hj
  unfold rInit; rw [if_pos (And.intro hi hj)]; split <;> omega
theorem rRowsN_fit {m : M} {n k : Nat} (hf : Fit m n) : ∀ i, i ≤ n → Fit (rRowsN m k n i) n
  | 0, _ => hf
  | i + 1, hi => rRowN_fit (rRowsN_fit hf (k := k) i (by omega)) (by omega) n (Nat.le_refl _)
theorem rfwN_fit {m : M} {n : Nat} (hf : Fit m n) : ∀ k, k ≤ n → Fit (rfwN m n k) n
  | 0, _ => hf
  | k + 1, hk => rRowsN_fit (rfwN_fit hf k (by omega)) n (Nat.le_refl _)
end Go.Proofs.Ytdmphpkiclfhhaa.Z
namespace Go.Proofs.Ytdmphpkiclfhhaa.C
open Go.RowKit
set_option linter.unusedSimpArgs false
set_option linter.unusedVariables false
theorem plus_c (a b : Int) (w : World) (h1 : -1099511627776 ≤ a) (h2 : a ≤ 1099511627776) (h3 : -1099511627776 ≤ b) (h4 : b ≤ 1099511627776) :
    Calls Try.prog 115 #[.int .i64 a, .int .i64 b] w fun e w' => e = .returned (.int .i64 (Z.plusZ a b)) ∧ w = w' := by
  by_cases ha : 1099511627776 ≤ a
  · have g1 : decide (1099511627776 ≤ a) = true := decide_eq_true ha
    have e0 : Z.plusZ a b = 1099511627776 := by unfold Z.plusZ; rw [if_pos (.inl ha)]
    rw [e0]
    clear e0 ha
    go_enter Try.func115, Try.ntmps115
    go_wp2
    go_ret
    exact ⟨rfl, rfl⟩
  · have g1 : decide (1099511627776 ≤ a) = false := decide_eq_false ha
    by_cases hb : 1099511627776 ≤ b
    · have g2 : decide (1099511627776 ≤ b) = true := decide_eq_true hb
      have e0 : Z.plusZ a b = 1099511627776 := by unfold Z.plusZ; rw [if_pos (.inr hb)]
      rw [e0]
      clear e0 ha hb
      go_enter Try.func115, Try.ntmps115
      go_wp2
      go_ret
      exact ⟨rfl, rfl⟩
    · have g2 : decide (1099511627776 ≤ b) = false := decide_eq_false hb
      have e0 : Hid (Z.plusZ a b = max (-1099511627776) (min (a + b) 1099511627776)) := Lib.hid (by unfold Z.plusZ; rw [if_neg (by omega)])
      clear ha hb
      go_enter Try.func115, Try.ntmps115
      go_wp2
      all_goals
        go_ret
        exact ⟨ret_i64 (by rw [e0.out]; omega), rfl⟩
/-- The boxes: the result's and the copy's. -/
def RBox (w : World) (b4 B n cap : Nat) (W : World) : Prop := Below w.heap.size w W ∧ w.heap.size + 1 < b4 ∧ b4 < W.heap.size
theorem min_ite (a b : Int) : (if b < a then b else a) = min a b := by split <;> omega
set_option maxRecDepth 100000 in
set_option maxHeartbeats 6400000 in
theorem rclose_c (a : Addr) (n cap : Nat) (m : Z.M) (w : World) (hn : 1 ≤ n) (hn2 : n ≤ 1000) (hm : RM w a n m) (hf : Z.Fit m n) :
    Calls Try.prog 76 #[.agg #[.slice (some a) n cap]] w (NewM2 w n (Z.rCloseM m n)) := by
  have HM := Lib.hid hm
  have HF := Lib.hid hf
  clear hm hf
  go_enter Try.func76, Try.ntmps76
  go_upto_region 1 with fail
  refine at_world (fun W => Hid (Below w.heap.size w W ∧ W.heap.size = w.heap.size + 1 + 1) ∧ (∀ o, W.cell? ⟨w.heap.size, o, none⟩ = [Value.slice (some a) n cap][o]?) ∧ (∀ o, W.cell? ⟨w.heap.size + 1, o, none⟩ = [Value.slice none 0 0][o]?) ∧ (∀ o, W.frozen? ⟨w.heap.size + 1, o, none⟩ = false)) ⟨Lib.hid ⟨(by repeat' (first | exact Below.refl _ _ | (refine Below.alloc ?_ ?_ _) | (refine Below.setCell ?_ ?_ _) | (refine Below.drew ?_) | (refine below_next ?_ ?_ (by assumption)) | omega | (simp; done) | (simp; omega))), by simp⟩, (by intro o; simp [go_sem]), (by intro o; simp [go_sem]), (by intro o; simp [go_sem])⟩ ?_
  intro W0 ⟨HB0, k0, k1, f1⟩
  go_upto_region 2 with (go_at_call 50; refine (copyZone_c a n cap m _ hn hn2 (HM.out.below HB0.out.1)).mono ?_; rintro e w1 ⟨B, R, C, cap', rfl, hcap, hom, hb⟩)
  refine at_world (fun W => Hid (Below w.heap.size w W ∧ OM W (w.heap.size + 1 + 1) B R C n m ∧ W.heap.size = w1.heap.size + 1 ∧ B ≠ w1.heap.size ∧ (∀ i, i < n → R i ≠ w1.heap.size) ∧ w.heap.size + 1 < w1.heap.size) ∧ (∀ o, W.cell? ⟨w1.heap.size, o, none⟩ = [Value.slice (some ⟨B, 0, none⟩) n cap'][o]?) ∧ (∀ o, W.cell? ⟨w.heap.size + 1, o, none⟩ = [Value.slice none 0 0][o]?) ∧ (∀ o, W.frozen? ⟨w.heap.size + 1, o, none⟩ = false)) ?_ ?_
  · have hs := hb.size
    have hs0 := HB0.out.2
    have hbw := below_next HB0.out.1 HB0.out.1.size hb
    exact ⟨Lib.hid ⟨hbw.alloc hbw.size _, by rw [← hs0]; exact hom.below ((Below.refl _ _).alloc (Nat.le_refl _) _), by simp, Nat.ne_of_lt hom.hB.2, fun i hi => Nat.ne_of_lt (hom.hR i hi).2.1, by omega⟩, (by intro o; simp [go_sem]), fun o => ((((Below.refl _ _).alloc (Nat.le_refl _) _).cell (p := ⟨w.heap.size + 1, o, none⟩) (by show w.heap.size + 1 < _; omega)).trans (hb.cell (p := ⟨w.heap.size + 1, o, none⟩) (by show w.heap.size + 1 < _; omega))).trans (k1 o), fun o => ((((Below.refl _ _).alloc (Nat.le_refl _) _).frozen (p := ⟨w.heap.size + 1, o, none⟩) (by show w.heap.size + 1 < _; omega)).trans (hb.frozen (p := ⟨w.heap.size + 1, o, none⟩) (by show w.heap.size + 1 < _; omega))).trans (f1 o)⟩
  obtain ⟨b4, hb4⟩ : ∃ b, w1.heap.size = b := ⟨_, rfl⟩
  simp only [hb4]
  clear hom hb k0 k1 f1 HB0 HM hb4 w1 W0
  intro W1 ⟨H1, k4, k1, f1⟩
  have K4 := Lib.hid k4
  have K1 := Lib.hid k1
  have F1 := Lib.hid f1
  have HO := Lib.hid H1.out.2.1
  clear k1 f1
  go_upto_region 4 with fail
  clear k4
  -- the first loop
  go_loopw [6] (fun i wr => ∃ k : Nat, k ≤ n ∧ i = .int .i64 k ∧ OM wr (w.heap.size + 1 + 1) B R C n (Z.rIR m n k) ∧ Kept R n W1 wr) (fun i _ => n - (intOf i).toNat)
  case atStart => exact ⟨0, by omega, rfl, HO.out.alike (Z.rIR_none m n), Kept.refl _ _ _⟩
  case round =>
    obtain ⟨k, hk, rfl, hom, hkept⟩ := hrel
    have k4 := fun o => (hkept.cell (p := ⟨b4, o, none⟩) (by have := H1.out.2.2.1; show b4 < _; omega) (fun i hi => (H1.out.2.2.2.2.1 i hi).symm)).trans (K4.out o)
    by_cases hlt : k < n
    · have c1 := hom.outer k hlt
      have c2 := hom.inner k k hlt hlt
      have f2 := hom.frz k k hlt hlt
      have HMk := Lib.hid hom
      have HKk := Lib.hid hkept
      have hk0 : (0 : Int) ≤ (k : Int) := by omega
      have hk1 : (k : Int) < (n : Int) := by omega
      have HS := Lib.hid (Z.rIP_start m n k)
      obtain ⟨x, hx⟩ : ∃ x, Z.rIR m n k k k = x := ⟨_, rfl⟩
      rw [hx] at c2 HS
      clear hx hom hkept
      obtain ⟨wo, rfl⟩ : ∃ wo : World, wo = wr := ⟨_, rfl⟩
      obtain ⟨y, hy⟩ : ∃ y, (if (0 : Int) < x then (0 : Int) else x) = y := ⟨_, rfl⟩
      have HY : Hid (min x 0 = y) := Lib.hid (by rw [← hy]; split <;> omega)
      go_upto_region 6 with fail
      go_still_tail 16, (by kernel_rfl)
      go_upto_region 7 with fail
      refine at_world (fun W => Hid (OM W (w.heap.size + 1 + 1) B R C n (Z.rIP m n k 0) ∧ Kept R n W1 W)) (Lib.hid ⟨(HMk.out.drew.set hlt hlt _).alike (by rw [← HY.out]; exact HS.out), HKk.out.drew.setCell hlt _ _⟩) ?_
      clear c1 c2 f2 HS HMk HKk k4 hy HY wo
      intro W2 H2
      go_wp2_with fail
      go_loopw [7] (fun i wr => ∃ t : Nat, t ≤ n ∧ i = .int .i64 t ∧ OM wr (w.heap.size + 1 + 1) B R C n (Z.rIP m n k t) ∧ Kept R n W1 wr) (fun i _ => n - (intOf i).toNat)
      case atStart => exact ⟨0, by omega, rfl, H2.out.1, H2.out.2⟩
      case round =>
        obtain ⟨t, ht, rfl, hom, hkept⟩ := hrel
        have k4 := fun o => (hkept.cell (p := ⟨b4, o, none⟩) (by have := H1.out.2.2.1; show b4 < _; omega) (fun i hi => (H1.out.2.2.2.2.1 i hi).symm)).trans (K4.out o)
        by_cases hlu : t < n
        · have c1 := hom.outer k hlt
          have c2 := hom.inner k t hlt hlu
          have f2 := hom.frz k t hlt hlu
          have HMk := Lib.hid hom
          have HKk := Lib.hid hkept
          have ht0 : (0 : Int) ≤ (t : Int) := by omega
          have ht1 : (t : Int) < (n : Int) := by omega
          have HS := Lib.hid (Z.rIP_step m n k t hlu)
          obtain ⟨x, hx⟩ : ∃ x, Z.rIP m n k t k t = x := ⟨_, rfl⟩
          rw [hx] at c2 HS
          clear hx hom hkept
          go_upto_region 10 with fail
          go_still_tail 16, (by kernel_rfl)
          go_wp2_with fail
          all_goals exact ⟨⟨t + 1, by omega, by go_num, (HMk.out.drew.set hlt hlu _).alike (by simpa [min_ite] using HS.out), HKk.out.drew.setCell hlt _ _⟩, by simp [intOf]; omega⟩
        · obtain rfl : t = n := by omega
          have HMk := Lib.hid (hom.alike (Z.rIP_end m t k hlt))
          have HKk := Lib.hid hkept
          clear hom hkept k4 ht hlu
          go_wp2_with fail
          all_goals exact ⟨⟨k + 1, by omega, by go_num, HMk.out, HKk.out⟩, by simp [intOf]; omega⟩
    · obtain rfl : k = n := by omega
      have HMk := Lib.hid (hom.alike (Z.rIR_all m k))
      have HKk := Lib.hid hkept
      have HF0 := Lib.hid (Z.rInit_fit HF.out)
      clear hom hkept k4 hk hlt
      obtain ⟨M0, hM0⟩ : ∃ M0, Z.rInit m k = M0 := ⟨_, rfl⟩
      have HCL : Hid (Z.rCloseM m k = Z.rfwN M0 k k) := Lib.hid (by unfold Z.rCloseM; rw [hM0])
      rw [hM0] at HMk HF0
      clear hM0 HF
      obtain ⟨w2, rfl⟩ : ∃ w2 : World, w2 = wr := ⟨_, rfl⟩
      go_wp2_with fail
      go_loopw [8] (fun i wr => ∃ q : Nat, q ≤ k ∧ i = .int .i64 q ∧ OM wr (w.heap.size + 1 + 1) B R C k (Z.rfwN M0 k q) ∧ Kept R k W1 wr) (fun i _ => k - (intOf i).toNat)
      case atStart => exact ⟨0, by omega, rfl, HMk.out, HKk.out⟩
      case round =>
        obtain ⟨q, hq, rfl, hom, hkept⟩ := hrel
        by_cases hlt : q < k
        · have hFq := Lib.hid (Z.rfwN_fit HF0.out q (by omega))
          have HSq : Hid (Z.rfwN M0 k (q + 1) = Z.rRowsN (Z.rfwN M0 k q) q k k) := Lib.hid rfl
          obtain ⟨M1, hM1⟩ : ∃ M1, Z.rfwN M0 k q = M1 := ⟨_, rfl⟩
          rw [hM1] at hom hFq HSq
          clear hM1
          have HM1 := Lib.hid hom
          have HK1 := Lib.hid hkept
          clear hom hkept
          obtain ⟨w2, rfl⟩ : ∃ w2 : World, w2 = wr := ⟨_, rfl⟩
          go_wp2_with fail
          go_loopw [9] (fun i wr => ∃ r : Nat, r ≤ k ∧ i = .int .i64 r ∧ OM wr (w.heap.size + 1 + 1) B R C k (Z.rRowsN M1 q k r) ∧ Kept R k W1 wr) (fun i _ => k - (intOf i).toNat)
          case atStart => exact ⟨0, by omega, rfl, HM1.out, HK1.out⟩
          case round =>
            obtain ⟨r, hr, rfl, hom, hkept⟩ := hrel
            by_cases hlr : r < k
            · have hFr := Lib.hid (Z.rRowsN_fit hFq.out (k := q) r (by omega))
              have HSr : Hid (Z.rRowsN M1 q k (r + 1) = Z.rRowN (Z.rRowsN M1 q k r) q r k) := Lib.hid rfl
              obtain ⟨M2, hM2⟩ : ∃ M2, Z.rRowsN M1 q k r = M2 := ⟨_, rfl⟩
              rw [hM2] at hom hFr HSr
              clear hM2
              have HM2 := Lib.hid hom
              have HK2 := Lib.hid hkept
              clear hom hkept
              obtain ⟨w3, rfl⟩ : ∃ w3 : World, w3 = wr := ⟨_, rfl⟩
              go_wp2_with fail
              go_loopw [10] (fun i wr => ∃ t : Nat, t ≤ k ∧ i = .int .i64 t ∧ OM wr (w.heap.size + 1 + 1) B R C k (Z.rRowN M2 q r t) ∧ Kept R k W1 wr) (fun i _ => k - (intOf i).toNat)
              case atStart => exact ⟨0, by omega, rfl, HM2.out, HK2.out⟩
              case round =>
                obtain ⟨t, ht, rfl, hom, hkept⟩ := hrel
                by_cases hlu : t < k
                · have k4 := fun o => (hkept.cell (p := ⟨b4, o, none⟩) (by have := H1.out.2.2.1; show b4 < _; omega) (fun i hi => (H1.out.2.2.2.2.1 i hi).symm)).trans (K4.out o)
                  have hb4s : b4 < wr.heap.size := by have := H1.out.2.2.1; have := hkept.size; omega
                  have hFt := Z.rRowN_fit hFr.out hlr (k := q) t (by omega)
                  have HSt : Hid (Z.rRowN M2 q r (t + 1) = Z.upd (Z.rRowN M2 q r t) r t (min (Z.rRowN M2 q r t r t) (Z.plusZ (Z.rRowN M2 q r t r q) (Z.rRowN M2 q r t q t)))) := Lib.hid rfl
                  obtain ⟨M3, hM3⟩ : ∃ M3, Z.rRowN M2 q r t = M3 := ⟨_, rfl⟩
                  rw [hM3] at hom hFt HSt
                  clear hM3
                  have c1 := hom.outer r hlr
                  have c2 := hom.outer q hlt
                  have c3 := hom.inner r t hlr hlu
                  have c4 := hom.inner r q hlr hlt
                  have c5 := hom.inner q t hlt hlu
                  have f3 := hom.frz r t hlr hlu
                  have HM3 := Lib.hid hom
                  have HK3 := Lib.hid hkept
                  have b4' := hFt r q hlr hlt
                  have b5' := hFt q t hlt hlu
                  clear hom hkept hFt
                  obtain ⟨x, hx⟩ : ∃ x, M3 r t = x := ⟨_, rfl⟩
                  obtain ⟨y, hy⟩ : ∃ x, M3 r q = x := ⟨_, rfl⟩
                  obtain ⟨z, hz⟩ : ∃ x, M3 q t = x := ⟨_, rfl⟩
                  rw [hx] at c3 HSt
                  rw [hy] at c4 b4' HSt
                  rw [hz] at c5 b5' HSt
                  clear hx hy hz
                  have SU := fun W => plus_c y z W b4'.1 b4'.2 b5'.1 b5'.2
                  obtain ⟨s, hs⟩ : ∃ s, Z.plusZ y z = s := ⟨_, rfl⟩
                  rw [hs] at HSt
                  simp only [hs] at SU
                  clear hs b4' b5'
                  obtain ⟨w4, rfl⟩ : ∃ w4 : World, w4 = wr := ⟨_, rfl⟩
                  have hr0 : (0 : Int) ≤ (r : Int) := by omega
                  have hr1 : (r : Int) < (k : Int) := by omega
                  have hq0 : (0 : Int) ≤ (q : Int) := by omega
                  have hq1 : (q : Int) < (k : Int) := by omega
                  have ht0 : (0 : Int) ≤ (t : Int) := by omega
                  have ht1 : (t : Int) < (k : Int) := by omega
                  have d1 := fun (x' : WIn (Below w4.heap.size w4)) => cell_later x'.h c1
                  have d2 := fun (x' : WIn (Below w4.heap.size w4)) => cell_later x'.h c2
                  have d3 := fun (x' : WIn (Below w4.heap.size w4)) => cell_later x'.h c3
                  have d4 := fun (x' : WIn (Below w4.heap.size w4)) => cell_later x'.h c4
                  have d5 := fun (x' : WIn (Below w4.heap.size w4)) => cell_later x'.h c5
                  have d6 := fun (x' : WIn (Below w4.heap.size w4)) (o : Nat) => (x'.h.cell (p := ⟨b4, o, none⟩) hb4s).trans (k4 o)
                  clear c1 c2 c3 c4 c5 k4
                  go_upto_region 20 with fail
                  refine region_tail 33 (Below w4.heap.size w4) (by kernel_rfl) (by kernel_rfl) (Below.refl _ _).drew (fun inst => ?_)
                  simp only [List.take_succ_cons, List.take_zero, List.drop_succ_cons, List.drop_zero]
                  iterate 33 (go_big_quiet_step ((go_at_call 115; exact call_same _ (SU _))))
                  refine wpQuiet_nil ?_
                  intro wd hbd
                  have f4 : wd.frozen? ⟨R r, t, none⟩ = false := by rw [hbd.frozen (p := ⟨R r, t, none⟩) (HM3.out.hR r hlr).2.1]; exact f3
                  have k4' : ∃ v, wd.cell? ⟨R r, t, none⟩ = some v := ⟨_, (HM3.out.below hbd).inner r t hlr hlu⟩
                  obtain ⟨v4, k4'⟩ := k4'
                  clear d1 d2 d3 d4 d5 d6 f3
                  go_wp2_with fail
                  all_goals exact ⟨⟨t + 1, by omega, by go_num, by rw [HSt.out, show min x s = (if s < x then s else x) from by split <;> omega]; exact (HM3.out.below hbd).set hlr hlu _, (HK3.out.grow hbd).setCell hlr _ _⟩, by simp [intOf]; omega⟩
                · obtain rfl : t = k := by omega
                  clear ht hlu
                  rw [← HSr.out] at hom
                  have HM3 := Lib.hid hom
                  have HK3 := Lib.hid hkept
                  clear hom hkept
                  go_wp2_with fail
                  all_goals exact ⟨⟨r + 1, by omega, by go_num, HM3.out, HK3.out⟩, by simp [intOf]; omega⟩
            · obtain rfl : r = k := by omega
              clear hr hlr
              rw [← HSq.out] at hom
              have HM3 := Lib.hid hom
              have HK3 := Lib.hid hkept
              clear hom hkept
              go_wp2_with fail
              all_goals exact ⟨⟨q + 1, by omega, by go_num, HM3.out, HK3.out⟩, by simp [intOf]; omega⟩
        · obtain rfl : q = k := by omega
          clear hq hlt
          clear HF0
          have HM1 := Lib.hid hom
          have HK1 := Lib.hid hkept
          clear hom hkept
          obtain ⟨w2, rfl⟩ : ∃ w2 : World, w2 = wr := ⟨_, rfl⟩
          have HP : Hid (Below w.heap.size w w2) := Lib.hid (HK1.out.below (base := w.heap.size) (fun i hi => by have := (HO.out.hR i hi).1; omega) H1.out.1 H1.out.1.size)
          have hRs : Hid (∀ i, i < q → R i ≠ w.heap.size + 1) := Lib.hid (fun i hi => by have := (HO.out.hR i hi).1; omega)
          have hBs : Hid (B ≠ w.heap.size + 1) := Lib.hid (by have := HO.out.hB.1; omega)
          have k4 := fun o => (HK1.out.cell (p := ⟨b4, o, none⟩) (by have := H1.out.2.2.1; show b4 < _; omega) (fun i hi => (H1.out.2.2.2.2.1 i hi).symm)).trans (K4.out o)
          have k1 := fun o => (HK1.out.cell (p := ⟨w.heap.size + 1, o, none⟩) (by have := H1.out.2.2.1; have := H1.out.2.2.2.2.2; show w.heap.size + 1 < _; omega) (fun i hi => (hRs.out i hi).symm)).trans (K1.out o)
          have f1 := fun o => (HK1.out.frozen (p := ⟨w.heap.size + 1, o, none⟩) (by have := H1.out.2.2.1; have := H1.out.2.2.2.2.2; show w.heap.size + 1 < _; omega) (fun i hi => (hRs.out i hi).symm)).trans (F1.out o)
          go_wp2_with fail
          go_loop [11] (fun i => ∃ t : Nat, t ≤ q ∧ i = .int .i64 t ∧ Hid (∀ i, i < t → 0 ≤ Z.rfwN M0 q q i i)) (fun i => q - (intOf i).toNat)
          case atStart => exact ⟨0, by omega, rfl, Lib.hid (fun i hi => absurd hi (by omega))⟩
          case round =>
            obtain ⟨t, ht, rfl, HN⟩ := hrel
            by_cases hlu : t < q
            · have c1 := HM1.out.outer t hlu
              have c2 := HM1.out.inner t t hlu hlu
              obtain ⟨x, hx⟩ : ∃ x, Z.rfwN M0 q q t t = x := ⟨_, rfl⟩
              rw [hx] at c2
              have HX := Lib.hid hx
              clear hx
              have ht0 : (0 : Int) ≤ (t : Int) := by omega
              have ht1 : (t : Int) < (q : Int) := by omega
              by_cases hx : x < 0
              · have g : decide (x < 0) = true := decide_eq_true hx
                have e0 : Hid (Z.okM (Z.rfwN M0 q q) q = false) := Lib.hid (by
                  unfold Z.okM
                  rw [decide_eq_false_iff_not]
                  intro h
                  have := h t hlu
                  rw [HX.out] at this
                  omega)
                clear hx
                go_wp2_with fail
                exact bodyPost_ret (v := .tuple #[.agg #[.slice none 0 0], .bool false]) (by simp [results, Try.results76, go_sem, *]) rfl ⟨HP.out.setCell (by show w.heap.size ≤ w.heap.size + 1; omega) _, .inr ⟨by rw [HCL.out]; exact e0.out, rfl⟩⟩
              · have g : decide (x < 0) = false := decide_eq_false hx
                have HN2 : Hid (∀ i, i < t + 1 → 0 ≤ Z.rfwN M0 q q i i) := Lib.hid (fun i hi => by
                  by_cases e : i = t
                  · subst e; rw [HX.out]; omega
                  · exact HN.out i (by omega))
                clear hx
                go_wp2_with fail
                all_goals exact ⟨⟨t + 1, by omega, by go_num, HN2⟩, by simp [intOf]; omega⟩
            · obtain rfl : t = q := by omega
              have e0 : Hid (Z.okM (Z.rfwN M0 t t) t = true) := Lib.hid (decide_eq_true HN.out)
              clear ht hlu
              go_wp2_with fail
              exact bodyPost_ret (v := .tuple #[.agg #[.slice (some ⟨B, 0, none⟩) t cap'], .bool true]) (by simp [results, Try.results76, go_sem, *]) rfl ⟨HP.out.setCell (by show w.heap.size ≤ w.heap.size + 1; omega) _, .inl ⟨by rw [HCL.out]; exact e0.out, B, R, C, cap', rfl, hcap, by rw [HCL.out]; exact (HM1.out.lower (by omega)).keep (by simp) (Below.heap_setCell _ ⟨w.heap.size + 1, 0, none⟩ _ _ hBs.out) (fun i hi => Below.heap_setCell _ ⟨w.heap.size + 1, 0, none⟩ _ _ (hRs.out i hi))⟩⟩
end Go.Proofs.Ytdmphpkiclfhhaa.C
