/- zone.sum, zone.closed; the reference's plus: walks. -/
import Derived.Test.YtdmphpkiclfhhaaZMem
import Derived.Test.YtdmphpkiclfhhaaRefTyp
import Derived.BigFrame
import Derived.BigGuard
import Derived.StillTailTactics
import Derived.Deep.CutBlock
import Derived.WalkMore
namespace Go.Proofs.Ytdmphpkiclfhhaa.C
open Go.RowKit
set_option linter.unusedSimpArgs false
set_option linter.unusedVariables false
theorem sum_c (a b : Int) (w : World) (h1 : -1099511627776 ≤ a) (h2 : a ≤ 1099511627776) (h3 : -1099511627776 ≤ b) (h4 : b ≤ 1099511627776) :
    Calls Try.prog 108 #[.int .i64 a, .int .i64 b] w fun e w' => e = .returned (.int .i64 (Z.sumZ a b)) ∧ w = w' := by
  by_cases ha : 1099511627776 ≤ a
  · have g1 : decide (1099511627776 ≤ a) = true := decide_eq_true ha
    have e0 : Z.sumZ a b = 1099511627776 := by unfold Z.sumZ; rw [if_pos (.inl ha)]
    rw [e0]
    clear e0 ha
    go_enter Try.func108, Try.ntmps108
    go_wp2
    go_ret
    exact ⟨rfl, rfl⟩
  · have g1 : decide (1099511627776 ≤ a) = false := decide_eq_false ha
    by_cases hb : 1099511627776 ≤ b
    · have g2 : decide (1099511627776 ≤ b) = true := decide_eq_true hb
      have e0 : Z.sumZ a b = 1099511627776 := by unfold Z.sumZ; rw [if_pos (.inr hb)]
      rw [e0]
      clear e0 ha hb
      go_enter Try.func108, Try.ntmps108
      go_wp2
      go_ret
      exact ⟨rfl, rfl⟩
    · have g2 : decide (1099511627776 ≤ b) = false := decide_eq_false hb
      have e0 : Hid (Z.sumZ a b = max (a + b) (-1099511627776)) := Lib.hid (by unfold Z.sumZ; rw [if_neg (by omega)])
      clear ha hb
      go_enter Try.func108, Try.ntmps108
      go_wp2
      all_goals
        go_ret
        exact ⟨ret_i64 (by rw [e0.out]; omega), rfl⟩
/-- What closed tells. -/
def ClosedPost (base B : Nat) (R C : Nat → Nat) (n cap : Nat) (M : Z.M) (w : World) (e : Ending) (w' : World) : Prop :=
  Below base w w' ∧ Kept R n w w' ∧ ((Z.okM M n = true ∧ e = .returned (.tuple #[.agg #[.slice (some ⟨B, 0, none⟩) n cap], .bool true]) ∧ OM w' base B R C n M) ∨ (Z.okM M n = false ∧ e = .returned (.tuple #[.agg #[.slice none 0 0], .bool false])))
theorem diag_step (m : Z.M) (n k : Nat) : Z.Alike (Z.upd (Z.diagM m k) k k (if 0 < Z.diagM m k k k then 0 else Z.diagM m k k k)) (Z.diagM m (k + 1)) n := fun a b ha hb => by
  unfold Z.upd Z.diagM
  by_cases e : a = k ∧ b = k
  · obtain ⟨rfl, rfl⟩ := e
    simp
    omega
  · rw [if_neg e]
    by_cases e2 : a = b
    · subst e2
      have : (a < k + 1) = (a < k) := by apply propext; omega
      simp [this]
    · simp [e2]
/-- What is known of the two boxes. -/
def ZBox (B n cap : Nat) (w : World) (W : World) : Prop := W.heap.size = w.heap.size + 1 + 1 ∧ (∀ o, W.cell? ⟨w.heap.size, o, none⟩ = [Value.slice (some ⟨B, 0, none⟩) n cap][o]?) ∧ (∀ o, W.cell? ⟨w.heap.size + 1, o, none⟩ = [Value.slice none 0 0][o]?) ∧ (∀ o, W.frozen? ⟨w.heap.size + 1, o, none⟩ = false)
set_option maxRecDepth 100000 in
set_option maxHeartbeats 6400000 in
theorem closed_c (base B : Nat) (R C : Nat → Nat) (n cap : Nat) (m : Z.M) (w : World) (h : OM w base B R C n m) (hn : 1 ≤ n) (hn2 : n ≤ 1000) (hf : Z.Fit m n) (hbase : base ≤ w.heap.size) :
    Calls Try.prog 85 #[.agg #[.slice (some ⟨B, 0, none⟩) n cap]] w (ClosedPost base B R C n cap (Z.closeM m n) w) := by
  have HO := Lib.hid h
  have HF : Hid (Z.Fit (Z.diagM m n) n) := Lib.hid (Z.diagM_fit hf)
  have hBs := h.hB.2
  have HR := Lib.hid (fun i (hi : i < n) => h.hR i hi)
  clear h hf
  go_enter Try.func85, Try.ntmps85
  go_upto_region 2 with fail
  refine at_world (fun W => Hid (Below w.heap.size w W ∧ ZBox B n cap w W)) (Lib.hid ⟨(by repeat' (first | exact Below.refl _ _ | (refine Below.alloc ?_ ?_ _) | (refine Below.setCell ?_ ?_ _) | (refine Below.drew ?_) | (refine below_next ?_ ?_ (by assumption)) | omega | (simp; done) | (simp; omega))), (by simp), (by intro o; simp [go_sem]), (by intro o; simp [go_sem]), (by intro o; simp [go_sem])⟩) ?_
  intro W0 HW0
  have HR0 : Hid (∀ i, i < n → w.heap.size ≠ R i ∧ w.heap.size + 1 ≠ R i) := Lib.hid (fun i hi => by have := (HR.out i hi).2.1; omega)
  go_wp2_with fail
  go_loopw [14] (fun i wr => ∃ k : Nat, k ≤ n ∧ i = .int .i64 k ∧ OM wr base B R C n (Z.diagM m k) ∧ Kept R n W0 wr) (fun i _ => n - (intOf i).toNat)
  case atStart => exact ⟨0, by omega, rfl, (HO.out.below HW0.out.1).alike (fun i j hi hj => by simp [Z.diagM]), Kept.refl _ _ _⟩
  case round =>
    obtain ⟨k, hk, rfl, hom, hkept⟩ := hrel
    by_cases hlt : k < n
    · have c1 := hom.outer k hlt
      have c2 := hom.inner k k hlt hlt
      have f2 := hom.frz k k hlt hlt
      have HM := Lib.hid hom
      have HK := Lib.hid hkept
      have hk0 : (0 : Int) ≤ (k : Int) := by omega
      have hk1 : (k : Int) < (n : Int) := by omega
      have HS := Lib.hid (diag_step m n k)
      obtain ⟨x, hx⟩ : ∃ x, Z.diagM m k k k = x := ⟨_, rfl⟩
      rw [hx] at c2 HS
      clear hx hom hkept
      go_upto_region 5 with fail
      go_still_tail 14, (by kernel_rfl)
      go_wp2_with fail
      all_goals exact ⟨⟨k + 1, by omega, by go_num, (HM.out.drew.set hlt hlt _).alike HS.out, HK.out.drew.setCell hlt _ _⟩, by simp [intOf]; omega⟩
    · obtain rfl : k = n := by omega
      clear hk hlt
      obtain ⟨M0, hM0⟩ : ∃ M0, Z.diagM m k = M0 := ⟨_, rfl⟩
      have hcl : Z.closeM m k = Z.fwN M0 k k := by unfold Z.closeM; rw [hM0]
      rw [hM0] at hom HF
      have HCL := Lib.hid hcl
      clear hM0 hcl
      have HM0 := Lib.hid hom
      have HK0 := Lib.hid hkept
      clear hom hkept
      obtain ⟨w1, rfl⟩ : ∃ w1 : World, w1 = wr := ⟨_, rfl⟩
      have HR0' : Hid (∀ i, i < k → w.heap.size ≠ R i ∧ w.heap.size + 1 ≠ R i) := HR0
      go_wp2_with fail
      go_loopw [34] (fun i wr => ∃ q : Nat, q ≤ k ∧ i = .int .i64 q ∧ OM wr base B R C k (Z.fwN M0 k q) ∧ Kept R k W0 wr) (fun i _ => k - (intOf i).toNat)
      case atStart => exact ⟨0, by omega, rfl, HM0.out, HK0.out⟩
      case round =>
        obtain ⟨q, hq, rfl, hom, hkept⟩ := hrel
        by_cases hlt : q < k
        · have hFq := Lib.hid (Z.fwN_fit HF.out q (by omega))
          have HSq : Hid (Z.fwN M0 k (q + 1) = Z.rowsN (Z.fwN M0 k q) q k k) := Lib.hid rfl
          obtain ⟨M1, hM1⟩ : ∃ M1, Z.fwN M0 k q = M1 := ⟨_, rfl⟩
          rw [hM1] at hom hFq HSq
          clear hM1
          have HM1 := Lib.hid hom
          have HK1 := Lib.hid hkept
          clear hom hkept
          obtain ⟨w2, rfl⟩ : ∃ w2 : World, w2 = wr := ⟨_, rfl⟩
          go_wp2_with fail
          go_step3
          go_wp2_with fail
          go_step3
          go_wp2_with fail
          go_outline
          go_loopw [39] (fun i wr => ∃ r : Nat, r ≤ k ∧ i = .int .i64 r ∧ OM wr base B R C k (Z.rowsN M1 q k r) ∧ Kept R k W0 wr) (fun i _ => k - (intOf i).toNat)
          case atStart => exact ⟨0, by omega, rfl, HM1.out, HK1.out⟩
          case round =>
            obtain ⟨r, hr, rfl, hom, hkept⟩ := hrel
            by_cases hlr : r < k
            · have hFr := Lib.hid (Z.rowsN_fit hFq.out (k := q) r (by omega))
              have HSr : Hid (Z.rowsN M1 q k (r + 1) = if 1099511627776 ≤ Z.rowsN M1 q k r r q then Z.rowsN M1 q k r else Z.rowN (Z.rowsN M1 q k r) q r k) := Lib.hid rfl
              obtain ⟨M2, hM2⟩ : ∃ M2, Z.rowsN M1 q k r = M2 := ⟨_, rfl⟩
              rw [hM2] at hom hFr HSr
              clear hM2
              have c1 := hom.outer r hlr
              have c2 := hom.inner r q hlr hlt
              have HM2 := Lib.hid hom
              have HK2 := Lib.hid hkept
              clear hom hkept
              obtain ⟨w3, rfl⟩ : ∃ w3 : World, w3 = wr := ⟨_, rfl⟩
              have hr0 : (0 : Int) ≤ (r : Int) := by omega
              have hr1 : (r : Int) < (k : Int) := by omega
              have hq0 : (0 : Int) ≤ (q : Int) := by omega
              have hq1 : (q : Int) < (k : Int) := by omega
              by_cases hbig : 1099511627776 ≤ M2 r q
              · have g1 : decide (1099511627776 ≤ M2 r q) = true := decide_eq_true hbig
                have e2 := HSr.out
                rw [if_pos hbig] at e2
                have HS2 := Lib.hid e2
                clear e2 HSr hbig
                go_wp2_with fail
                all_goals exact ⟨⟨r + 1, by omega, by go_num, by rw [HS2.out]; exact HM2.out, HK2.out⟩, by simp [intOf]; omega⟩
              · have g1 : decide (1099511627776 ≤ M2 r q) = false := decide_eq_false hbig
                have e2 := HSr.out
                rw [if_neg hbig] at e2
                have HS2 := Lib.hid e2
                clear e2 HSr hbig
                go_wp2_with fail
                go_loopw [52] (fun i wr => ∃ t : Nat, t ≤ k ∧ i = .int .i64 t ∧ OM wr base B R C k (Z.rowN M2 q r t) ∧ Kept R k W0 wr) (fun i _ => k - (intOf i).toNat)
                case atStart => exact ⟨0, by omega, rfl, HM2.out, HK2.out⟩
                case round =>
                  obtain ⟨t, ht, rfl, hom, hkept⟩ := hrel
                  clear c1 c2 g1
                  by_cases hlu : t < k
                  · have hFt := Z.rowN_fit hFr.out hlr (k := q) t (by omega)
                    have HSt : Hid (Z.rowN M2 q r (t + 1) = Z.upd (Z.rowN M2 q r t) r t (min (Z.rowN M2 q r t r t) (Z.sumZ (Z.rowN M2 q r t r q) (Z.rowN M2 q r t q t)))) := Lib.hid rfl
                    obtain ⟨M3, hM3⟩ : ∃ M3, Z.rowN M2 q r t = M3 := ⟨_, rfl⟩
                    rw [hM3] at hom hFt HSt
                    clear hM3
                    have c1 := hom.outer r hlr
                    have c2 := hom.outer q hlt
                    have c3 := hom.inner r t hlr hlu
                    have c4 := hom.inner r q hlr hlt
                    have c5 := hom.inner q t hlt hlu
                    have f3 := hom.frz r t hlr hlu
                    have HM3 := Lib.hid hom
                    have HK3 := Lib.hid hkept
                    have b4 := hFt r q hlr hlt
                    have b5 := hFt q t hlt hlu
                    clear hom hkept hFt
                    obtain ⟨x, hx⟩ : ∃ x, M3 r t = x := ⟨_, rfl⟩
                    obtain ⟨y, hy⟩ : ∃ x, M3 r q = x := ⟨_, rfl⟩
                    obtain ⟨z, hz⟩ : ∃ x, M3 q t = x := ⟨_, rfl⟩
                    rw [hx] at c3 HSt
                    rw [hy] at c4 b4 HSt
                    rw [hz] at c5 b5 HSt
                    clear hx hy hz
                    have SU := fun W => sum_c y z W b4.1 b4.2 b5.1 b5.2
                    obtain ⟨s, hs⟩ : ∃ s, Z.sumZ y z = s := ⟨_, rfl⟩
                    rw [hs] at HSt
                    simp only [hs] at SU
                    clear hs b4 b5
                    obtain ⟨w4, rfl⟩ : ∃ w4 : World, w4 = wr := ⟨_, rfl⟩
                    have hr0 : (0 : Int) ≤ (r : Int) := by omega
                    have hr1 : (r : Int) < (k : Int) := by omega
                    have hq0 : (0 : Int) ≤ (q : Int) := by omega
                    have hq1 : (q : Int) < (k : Int) := by omega
                    have ht0 : (0 : Int) ≤ (t : Int) := by omega
                    have ht1 : (t : Int) < (k : Int) := by omega
                    have d1 := fun (x' : WIn (Below w4.heap.size w4)) => cell_later x'.h c1
                    have d2 := fun (x' : WIn (Below w4.heap.size w4)) => cell_later x'.h c2
                    have d3 := fun (x' : WIn (Below w4.heap.size w4)) => cell_later x'.h c3
                    have d4 := fun (x' : WIn (Below w4.heap.size w4)) => cell_later x'.h c4
                    have d5 := fun (x' : WIn (Below w4.heap.size w4)) => cell_later x'.h c5
                    clear c1 c2 c3 c4 c5
                    go_upto_region 17 with fail
                    refine region_tail 29 (Below w4.heap.size w4) (by kernel_rfl) (by kernel_rfl) (Below.refl _ _).drew (fun inst => ?_)
                    simp only [List.take_succ_cons, List.take_zero, List.drop_succ_cons, List.drop_zero]
                    iterate 29 (go_big_quiet_step ((go_at_call 108; exact call_same _ (SU _))))
                    refine wpQuiet_nil ?_
                    intro wd hbd
                    have f4 : wd.frozen? ⟨R r, t, none⟩ = false := by rw [hbd.frozen (p := ⟨R r, t, none⟩) (HM3.out.hR r hlr).2.1]; exact f3
                    have k4 : ∃ v, wd.cell? ⟨R r, t, none⟩ = some v := ⟨_, (HM3.out.below hbd).inner r t hlr hlu⟩
                    obtain ⟨v4, k4⟩ := k4
                    clear d1 d2 d3 d4 d5 f3
                    go_wp2_with fail
                    all_goals exact ⟨⟨t + 1, by omega, by go_num, by rw [HSt.out, show min x s = (if s < x then s else x) from by split <;> omega]; exact (HM3.out.below hbd).set hlr hlu _, (HK3.out.grow hbd).setCell hlr _ _⟩, by simp [intOf]; omega⟩
                  · obtain rfl : t = k := by omega
                    clear ht hlu
                    rw [← HS2.out] at hom
                    have HM3 := Lib.hid hom
                    have HK3 := Lib.hid hkept
                    clear hom hkept
                    go_wp2_with fail
                    all_goals exact ⟨⟨r + 1, by omega, by go_num, HM3.out, HK3.out⟩, by simp [intOf]; omega⟩
            · obtain rfl : r = k := by omega
              clear hr hlr
              rw [← HSq.out] at hom
              have HM3 := Lib.hid hom
              have HK3 := Lib.hid hkept
              clear hom hkept
              go_wp2_with fail
              simp only [Exit.noGoto_normal]
              go_wp2_with fail
              all_goals exact ⟨⟨q + 1, by omega, by go_num, HM3.out, HK3.out⟩, by simp [intOf]; omega⟩
        · obtain rfl : q = k := by omega
          clear hq hlt
          clear HF
          have HM1 := Lib.hid hom
          have HK1 := Lib.hid hkept
          clear hom hkept
          obtain ⟨w2, rfl⟩ : ∃ w2 : World, w2 = wr := ⟨_, rfl⟩
          have KB : Below base w w2 := HK1.out.below (fun i hi => (HR.out i hi).1) (HW0.out.1.mono hbase) (by have := HW0.out.2.1; omega)
          have KK : Kept R q w w2 := ⟨HK1.out.os.trans HW0.out.1.os, HK1.out.tape.trans HW0.out.1.tape, HK1.out.output.trans HW0.out.1.output, Nat.le_trans HW0.out.1.size HK1.out.size, fun b hl hb => (HK1.out.block b (by have := HW0.out.2.1; omega) hb).trans (HW0.out.1.block b hl)⟩
          have HP := Lib.hid (And.intro KB KK)
          have k0 := fun o => (HK1.out.cell (p := ⟨w.heap.size, o, none⟩) (by have := HW0.out.2.1; show w.heap.size < _; omega) (fun i hi => (HR0.out i hi).1)).trans (HW0.out.2.2.1 o)
          have k1 := fun o => (HK1.out.cell (p := ⟨w.heap.size + 1, o, none⟩) (by have := HW0.out.2.1; show w.heap.size + 1 < _; omega) (fun i hi => (HR0.out i hi).2)).trans (HW0.out.2.2.2.1 o)
          have f1 := fun o => (HK1.out.frozen (p := ⟨w.heap.size + 1, o, none⟩) (by have := HW0.out.2.1; show w.heap.size + 1 < _; omega) (fun i hi => (HR0.out i hi).2)).trans (HW0.out.2.2.2.2 o)
          clear KB KK
          go_wp2_with fail
          go_loop [89] (fun i => ∃ t : Nat, t ≤ q ∧ i = .int .i64 t ∧ Hid (∀ i, i < t → 0 ≤ Z.fwN M0 q q i i)) (fun i => q - (intOf i).toNat)
          case atStart => exact ⟨0, by omega, rfl, Lib.hid (fun i hi => absurd hi (by omega))⟩
          case round =>
            obtain ⟨t, ht, rfl, HN⟩ := hrel
            by_cases hlu : t < q
            · have c1 := HM1.out.outer t hlu
              have c2 := HM1.out.inner t t hlu hlu
              obtain ⟨x, hx⟩ : ∃ x, Z.fwN M0 q q t t = x := ⟨_, rfl⟩
              rw [hx] at c2
              have HX := Lib.hid hx
              clear hx
              have ht0 : (0 : Int) ≤ (t : Int) := by omega
              have ht1 : (t : Int) < (q : Int) := by omega
              by_cases hx : x < 0
              · have g : decide (x < 0) = true := decide_eq_true hx
                have e0 : Hid (Z.okM (Z.fwN M0 q q) q = false) := Lib.hid (by
                  unfold Z.okM
                  rw [decide_eq_false_iff_not]
                  intro h
                  have := h t hlu
                  rw [HX.out] at this
                  omega)
                clear hx
                go_wp2_with fail
                exact bodyPost_ret (v := .tuple #[.agg #[.slice none 0 0], .bool false]) (by simp [results, Try.results85, go_sem, *]) rfl ⟨HP.out.1.setCell (by show base ≤ w.heap.size + 1; omega) _, HP.out.2.setOut (fun i hi => (HR0.out i hi).2) (by show w.heap.size ≤ w.heap.size + 1; omega) _, .inr ⟨by rw [HCL.out]; exact e0.out, rfl⟩⟩
              · have g : decide (x < 0) = false := decide_eq_false hx
                have HN2 : Hid (∀ i, i < t + 1 → 0 ≤ Z.fwN M0 q q i i) := Lib.hid (fun i hi => by
                  by_cases e : i = t
                  · subst e; rw [HX.out]; omega
                  · exact HN.out i (by omega))
                clear hx
                go_wp2_with fail
                all_goals exact ⟨⟨t + 1, by omega, by go_num, HN2⟩, by simp [intOf]; omega⟩
            · obtain rfl : t = q := by omega
              have e0 : Hid (Z.okM (Z.fwN M0 t t) t = true) := Lib.hid (decide_eq_true HN.out)
              clear ht hlu
              go_wp2_with fail
              exact bodyPost_ret (v := .tuple #[.agg #[.slice (some ⟨B, 0, none⟩) t cap], .bool true]) (by simp [results, Try.results85, go_sem, *]) rfl ⟨HP.out.1.setCell (by show base ≤ w.heap.size + 1; omega) _, HP.out.2.setOut (fun i hi => (HR0.out i hi).2) (by show w.heap.size ≤ w.heap.size + 1; omega) _, .inl ⟨by rw [HCL.out]; exact e0.out, rfl, by rw [HCL.out]; exact HM1.out.keep (by simp) (Below.heap_setCell _ ⟨w.heap.size + 1, 0, none⟩ _ _ (by show B ≠ w.heap.size + 1; omega)) (fun i hi => Below.heap_setCell _ ⟨w.heap.size + 1, 0, none⟩ _ _ (fun h => (HR0.out i hi).2 h.symm))⟩⟩
end Go.Proofs.Ytdmphpkiclfhhaa.C
