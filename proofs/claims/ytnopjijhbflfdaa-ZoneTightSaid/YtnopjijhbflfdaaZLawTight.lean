/- ZoneTight: walk. Printed by wip/gen_ztight.py. -/
import Derived.Test.YtnopjijhbflfdaaZAwake
import Derived.Test.YtnopjijhbflfdaaZTight
namespace Go.Proofs.Ytnopjijhbflfdaa.C
open Go.RowKit
set_option linter.unusedSimpArgs false
set_option linter.unusedVariables false
/-- The loops: the three boxes, the two matrices. -/
def TightIn (w : World) (a : Addr) (n cap : Nat) (m : Z.M) (b3 B cap' : Nat) (R C : Nat → Nat) (M : Z.M) (W : World) : Prop :=
  Below w.heap.size w W ∧ w.heap.size < W.heap.size ∧ b3 < W.heap.size ∧ (∀ o, W.cell? ⟨w.heap.size, o, none⟩ = [Value.slice (some a) n cap][o]?) ∧ (∀ o, W.cell? ⟨b3, o, none⟩ = [Value.slice (some ⟨B, 0, none⟩) n cap'][o]?) ∧ RM W a n m ∧ OM W w.heap.size B R C n M
theorem TightIn.below {w : World} {a : Addr} {n cap : Nat} {m : Z.M} {b3 B cap' : Nat} {R C : Nat → Nat} {M : Z.M} {W W' : World} (h : TightIn w a n cap m b3 B cap' R C M W) (hb : Below W.heap.size W W') : TightIn w a n cap m b3 B cap' R C M W' :=
  ⟨below_next h.1 h.1.size hb, Nat.lt_of_lt_of_le h.2.1 hb.size, Nat.lt_of_lt_of_le h.2.2.1 hb.size, fun o => (hb.cell (p := ⟨w.heap.size, o, none⟩) h.2.1).trans (h.2.2.2.1 o), fun o => (hb.cell (p := ⟨b3, o, none⟩) h.2.2.1).trans (h.2.2.2.2.1 o), h.2.2.2.2.2.1.below hb, h.2.2.2.2.2.2.below hb⟩
set_option maxRecDepth 100000 in
set_option maxHeartbeats 12800000 in
theorem zoneTight_c (A : Option Addr) (n cap : Nat) (L : Nat → Nat) (m : Z.M) (w : World) (h : GM w A n L m) :
    Calls Try.prog 3 #[.agg #[.slice A n cap]] w (BoolPost true w) := by
  have hmax := h.1
  have H := Lib.hid h
  clear h
  by_cases h8 : 8 < n
  · have g : decide (8 < (n : Int)) = true := decide_eq_true (by omega)
    clear h8
    go_enter Try.func3, Try.ntmps3
    go_wp2_with (go_at_call 11; refine (awake16_c _).mono ?_; rintro e w' ⟨rfl, hb⟩)
    go_ret
    exact ⟨rfl, (by repeat' (first | exact Below.refl _ _ | (refine Below.alloc ?_ ?_ _) | (refine Below.setCell ?_ ?_ _) | (refine Below.drew ?_) | (refine below_next ?_ ?_ (by assumption)) | omega | (simp; done) | (simp; omega)))⟩
  have g : decide (8 < (n : Int)) = false := decide_eq_false (by omega)
  have hn8 : n ≤ 8 := by omega
  clear h8
  have SQ := fun W (hb : Below w.heap.size w W) => Square_c A n cap L m W (H.out.below hb)
  have SM := fun W (hb : Below w.heap.size w W) => small_c A n cap L m W (H.out.below hb)
  obtain ⟨sq, hsq⟩ : ∃ s, (fitB n L m && sqB n L && decide (0 < n)) = s := ⟨_, rfl⟩
  obtain ⟨sm, hsm⟩ : ∃ s, smallB n L m = s := ⟨_, rfl⟩
  rw [hsq] at SQ
  rw [hsm] at SM
  have HSQ := Lib.hid hsq
  have HSM := Lib.hid hsm
  clear hsq hsm
  cases sq with
  | false =>
    go_enter Try.func3, Try.ntmps3
    go_upto_region 1 with fail
    refine at_world (fun W => Hid (Below w.heap.size w W) ∧ w.heap.size < W.heap.size ∧ (∀ o, W.cell? ⟨w.heap.size, o, none⟩ = [Value.slice A n cap][o]?)) ⟨Lib.hid (by repeat' (first | exact Below.refl _ _ | (refine Below.alloc ?_ ?_ _) | (refine Below.setCell ?_ ?_ _) | (refine Below.drew ?_) | (refine below_next ?_ ?_ (by assumption)) | omega | (simp; done) | (simp; omega))), by simp, by intro o; simp [go_sem]⟩ ?_
    intro W0 ⟨HB, hs, k0⟩
    go_wp2_with (first | (go_at_call 9; refine (SQ _ HB.out).mono ?_; rintro e w' ⟨rfl, hb⟩; have hbz := hb.size; replace k0 := fun (o : Nat) => (hb.cell (p := ⟨w.heap.size, o, none⟩) (show w.heap.size < _ from by omega)).trans (k0 o); replace hs := Nat.lt_of_lt_of_le hs hbz; replace HB := Lib.hid (below_next HB.out HB.out.size hb); clear hb hbz) | (go_at_call 11; refine (awake16_c _).mono ?_; rintro e w' ⟨rfl, hb⟩; have hbz := hb.size; replace k0 := fun (o : Nat) => (hb.cell (p := ⟨w.heap.size, o, none⟩) (show w.heap.size < _ from by omega)).trans (k0 o); replace hs := Nat.lt_of_lt_of_le hs hbz; replace HB := Lib.hid (below_next HB.out HB.out.size hb); clear hb hbz))
    go_ret
    exact ⟨rfl, HB.out⟩
  | true =>
  cases sm with
  | false =>
    go_enter Try.func3, Try.ntmps3
    go_upto_region 1 with fail
    refine at_world (fun W => Hid (Below w.heap.size w W) ∧ w.heap.size < W.heap.size ∧ (∀ o, W.cell? ⟨w.heap.size, o, none⟩ = [Value.slice A n cap][o]?)) ⟨Lib.hid (by repeat' (first | exact Below.refl _ _ | (refine Below.alloc ?_ ?_ _) | (refine Below.setCell ?_ ?_ _) | (refine Below.drew ?_) | (refine below_next ?_ ?_ (by assumption)) | omega | (simp; done) | (simp; omega))), by simp, by intro o; simp [go_sem]⟩ ?_
    intro W0 ⟨HB, hs, k0⟩
    go_wp2_with (first | (go_at_call 9; refine (SQ _ HB.out).mono ?_; rintro e w' ⟨rfl, hb⟩; have hbz := hb.size; replace k0 := fun (o : Nat) => (hb.cell (p := ⟨w.heap.size, o, none⟩) (show w.heap.size < _ from by omega)).trans (k0 o); replace hs := Nat.lt_of_lt_of_le hs hbz; replace HB := Lib.hid (below_next HB.out HB.out.size hb); clear hb hbz) | (go_at_call 10; refine (SM _ HB.out).mono ?_; rintro e w' ⟨rfl, hb⟩; have hbz := hb.size; replace k0 := fun (o : Nat) => (hb.cell (p := ⟨w.heap.size, o, none⟩) (show w.heap.size < _ from by omega)).trans (k0 o); replace hs := Nat.lt_of_lt_of_le hs hbz; replace HB := Lib.hid (below_next HB.out HB.out.size hb); clear hb hbz) | (go_at_call 11; refine (awake16_c _).mono ?_; rintro e w' ⟨rfl, hb⟩; have hbz := hb.size; replace k0 := fun (o : Nat) => (hb.cell (p := ⟨w.heap.size, o, none⟩) (show w.heap.size < _ from by omega)).trans (k0 o); replace hs := Nat.lt_of_lt_of_le hs hbz; replace HB := Lib.hid (below_next HB.out HB.out.size hb); clear hb hbz))
    go_ret
    exact ⟨rfl, HB.out⟩
  | true =>
  have hq := HSQ.out
  rw [Bool.and_eq_true, Bool.and_eq_true] at hq
  obtain ⟨⟨q1, q2⟩, q3⟩ := hq
  have hL : ∀ i, i < n → L i = n := of_decide_eq_true q2
  have hn1 : 1 ≤ n := of_decide_eq_true q3
  have hfit : Z.Fit m n := fun i j hi hj => (of_decide_eq_true q1 : ∀ i, i < n → ∀ j, j < L i → _) i hi j (by rw [hL i hi]; exact hj)
  have hsmall : Z.Small m n := fun i j hi hj => (of_decide_eq_true HSM.out : ∀ i, i < n → ∀ j, j < L i → _) i hi j (by rw [hL i hi]; exact hj)
  obtain ⟨a, rfl, hrm⟩ := H.out.rm hn1 hL
  have HM := Lib.hid hrm
  have HF := Lib.hid hfit
  have HS := Lib.hid hsmall
  clear q1 q2 q3 hL hfit hsmall hrm H
  go_enter Try.func3, Try.ntmps3
  go_upto_region 1 with fail
  refine at_world (fun W => Hid (Below w.heap.size w W) ∧ w.heap.size < W.heap.size ∧ (∀ o, W.cell? ⟨w.heap.size, o, none⟩ = [Value.slice (some a) n cap][o]?)) ⟨Lib.hid (by repeat' (first | exact Below.refl _ _ | (refine Below.alloc ?_ ?_ _) | (refine Below.setCell ?_ ?_ _) | (refine Below.drew ?_) | (refine below_next ?_ ?_ (by assumption)) | omega | (simp; done) | (simp; omega))), by simp, by intro o; simp [go_sem]⟩ ?_
  intro W0 ⟨HB, hs, k0⟩
  go_upto_region 3 with (first | (go_at_call 9; refine (SQ _ HB.out).mono ?_; rintro e w' ⟨rfl, hb⟩; have hbz := hb.size; replace k0 := fun (o : Nat) => (hb.cell (p := ⟨w.heap.size, o, none⟩) (show w.heap.size < _ from by omega)).trans (k0 o); replace hs := Nat.lt_of_lt_of_le hs hbz; replace HB := Lib.hid (below_next HB.out HB.out.size hb); clear hb hbz) | (go_at_call 10; refine (SM _ HB.out).mono ?_; rintro e w' ⟨rfl, hb⟩; have hbz := hb.size; replace k0 := fun (o : Nat) => (hb.cell (p := ⟨w.heap.size, o, none⟩) (show w.heap.size < _ from by omega)).trans (k0 o); replace hs := Nat.lt_of_lt_of_le hs hbz; replace HB := Lib.hid (below_next HB.out HB.out.size hb); clear hb hbz))
  refine at_world (fun W => Hid (Below w.heap.size w W) ∧ w.heap.size < W.heap.size ∧ (∀ o, W.cell? ⟨w.heap.size, o, none⟩ = [Value.slice (some a) n cap][o]?)) ⟨HB, hs, k0⟩ ?_
  clear HB hs k0 SQ SM HSQ HSM
  intro W1 ⟨HB, hs, k0⟩
  have K0 := Lib.hid k0
  go_upto_region 4 with (go_at_call 12; refine (zclose_c a n cap m _ hn1 (by omega) (HM.out.below HB.out)).mono ?_; rintro e w3 ⟨hb3, ⟨ok, B, R, C, cap', rfl, hcap3, hom3⟩ | ⟨ok, rfl⟩⟩)
  rotate_left
  · clear k0
    have HB2 := Lib.hid (below_next HB.out HB.out.size hb3)
    clear hb3
    go_wp2_with (go_at_call 11; refine (awake16_c _).mono ?_; rintro e w' ⟨rfl, hb⟩)
    go_ret
    exact ⟨rfl, below_next (HB2.out.alloc HB2.out.size _) (by have := HB2.out.size; simp; omega) hb⟩
  have HI := Lib.hid (Z.tight hn8 HF.out HS.out ok)
  obtain ⟨M, hM⟩ : ∃ M, Z.closeM (Z.clampM m) n = M := ⟨_, rfl⟩
  have HLE : Hid (∀ i j, i < n → j < n → M i j ≤ m i j) := Lib.hid (fun i j hi hj => by rw [← hM]; exact Z.close_le HF.out hi hj)
  rw [hM] at HI hom3
  clear ok hM
  refine at_world (fun W => Hid (TightIn w a n cap m w3.heap.size B cap' R C M W)) ?_ ?_
  · have hbw : Below w.heap.size w w3 := below_next HB.out HB.out.size hb3
    have hs3 : w.heap.size < w3.heap.size := by have := hb3.size; omega
    exact Lib.hid ⟨hbw.alloc hbw.size _, by simp; omega, by simp, fun o => ((Below.refl w3.heap.size w3).alloc (Nat.le_refl _) _ |>.cell (p := ⟨w.heap.size, o, none⟩) hs3).trans ((hb3.cell (p := ⟨w.heap.size, o, none⟩) hs).trans (K0.out o)), by intro o; simp [go_sem], (HM.out.below hbw).below ((Below.refl _ _).alloc (Nat.le_refl _) _), (hom3.lower (by omega)).below ((Below.refl _ _).alloc (Nat.le_refl _) _)⟩
  intro W4 HT
  obtain ⟨b3, hb3e⟩ : ∃ b, w3.heap.size = b := ⟨_, rfl⟩
  rw [hb3e] at HT
  simp only [hb3e]
  clear hb3 hb3e hom3 k0 K0 hs HB HM w3 W1
  have k3 := HT.out.2.2.2.2.1
  go_upto_region 7 with (go_at_call 12; refine (zclose_c ⟨B, 0, none⟩ n cap' M _ hn1 (by omega) HT.out.2.2.2.2.2.2.rm).mono ?_; rintro e w5 ⟨hb5, ⟨ok, B', R', C', cap'', rfl, hcap5, hom5⟩ | ⟨ok, rfl⟩⟩)
  rotate_left
  · rw [Z.ok_again hn8 HI.out] at ok; cases ok
  have HO5 := Lib.hid (hom5.alike (Z.close_again hn8 HI.out))
  clear ok hom5 k3
  have HT5 := Lib.hid (HT.out.below hb5)
  refine at_world (fun W => Hid (TightIn w a n cap m b3 B cap' R C M W ∧ w5.heap.size < W.heap.size ∧ RM W ⟨B', 0, none⟩ n M) ∧ (∀ o, W.cell? ⟨w5.heap.size, o, none⟩ = [Value.slice (some ⟨B', 0, none⟩) n cap''][o]?)) ?_ ?_
  · have hba : Below w5.heap.size w5 (w5.alloc (.cells #[.slice (some ⟨B', 0, none⟩) n cap''] 24)) := (Below.refl _ _).alloc (Nat.le_refl _) _
    exact ⟨Lib.hid ⟨HT5.out.below hba, by simp, HO5.out.rm.below hba⟩, by intro o; simp [go_sem]⟩
  intro W6 ⟨HT6, k5⟩
  obtain ⟨b5, hb5e⟩ : ∃ b, w5.heap.size = b := ⟨_, rfl⟩
  rw [hb5e] at HT6 k5
  simp only [hb5e]
  clear hb5 hb5e HO5 HT5 HT w5 W4
  have k0 := HT6.out.1.2.2.2.1
  have k3 := HT6.out.1.2.2.2.2.1
  have SZ := sameZone_c ⟨B, 0, none⟩ ⟨B', 0, none⟩ n cap' cap'' M M W6 (by omega) HT6.out.1.2.2.2.2.2.2.rm HT6.out.2.2
  rw [Z.alikeB_true (Z.Alike.refl M n)] at SZ
  go_upto_region 9 with (go_at_call 13; refine SZ.mono ?_; rintro e w7 ⟨rfl, hb7⟩; have HT7 := Lib.hid (HT6.out.1.below hb7); have k0' := HT7.out.2.2.2.1; have k3' := HT7.out.2.2.2.2.1)
  refine at_world (fun W => Hid (TightIn w a n cap m b3 B cap' R C M W)) HT7 ?_
  clear k0 k3 k5 SZ k0' k3' HT6 HT7 hb7 w7 W6
  intro W8 HT8
  have k3 := HT8.out.2.2.2.2.1
  go_wp2_with fail
  go_loopw [7] (fun i wr => ∃ p : Nat, p ≤ n ∧ i = .int .i64 p ∧ Below W8.heap.size W8 wr) (fun i _ => n - (intOf i).toNat)
  case atStart => exact ⟨0, by omega, rfl, Below.refl _ _⟩
  case round =>
    obtain ⟨p, hp, rfl, hb⟩ := hrel
    have HB := Lib.hid hb
    have k3' := (HT8.out.below hb).2.2.2.2.1
    clear k3 hb
    by_cases hlp : p < n
    · obtain ⟨wo, rfl⟩ : ∃ wo : World, wo = wr := ⟨_, rfl⟩
      go_wp2_with fail
      go_loopw [8] (fun i wr => ∃ q : Nat, q ≤ n ∧ i = .int .i64 q ∧ Below W8.heap.size W8 wr) (fun i _ => n - (intOf i).toNat)
      case atStart => exact ⟨0, by omega, rfl, HB.out⟩
      case round =>
        obtain ⟨q, hq, rfl, hb⟩ := hrel
        have HT9 := Lib.hid (HT8.out.below hb)
        have HB9 := Lib.hid hb
        have k3 := HT9.out.2.2.2.2.1
        clear k3' HB hb
        by_cases hlq : q < n
        · obtain ⟨wi, rfl⟩ : ∃ wi : World, wi = wr := ⟨_, rfl⟩
          have X := fun (x : WIn (Below wi.heap.size wi)) => HT9.out.below x.h
          obtain ⟨Ra, Ca, ra1, ra2⟩ := HT9.out.2.2.2.2.2.1
          have d0 := fun (x : WIn (Below wi.heap.size wi)) => (X x).2.2.2.1
          have d3 := fun (x : WIn (Below wi.heap.size wi)) => (X x).2.2.2.2.1
          have e1 := fun (x : WIn (Below wi.heap.size wi)) => (X x).2.2.2.2.2.2.outer p hlp
          have e2 := fun (x : WIn (Below wi.heap.size wi)) => (X x).2.2.2.2.2.2.inner p q hlp hlq
          have e3 := fun (x : WIn (Below wi.heap.size wi)) => cell_later x.h (ra1 p hlp).1
          have e4 := fun (x : WIn (Below wi.heap.size wi)) => cell_later x.h (ra2 p q hlp hlq)
          have hle := HLE.out p q hlp hlq
          have hdg := HI.out.diag p hlp
          have HV : Hid (M p q = M p q) := rfl
          obtain ⟨x, hx⟩ : ∃ x, M p q = x := ⟨_, rfl⟩
          obtain ⟨y, hy⟩ : ∃ x, m p q = x := ⟨_, rfl⟩
          rw [hx] at hle
          rw [hy] at hle e4
          simp only [hx] at e2
          have g1 : decide (y < x) = false := decide_eq_false (by omega)
          have HX := Lib.hid hx
          have hp0 : (0 : Int) ≤ (p : Int) := by omega
          have hp1 : (p : Int) < (n : Int) := by omega
          have hq0 : (0 : Int) ≤ (q : Int) := by omega
          have hq1 : (q : Int) < (n : Int) := by omega
          have hdx : p = q → x = 0 := fun e => by subst e; rw [← hx]; exact hdg
          have HDX := Lib.hid hdx
          clear X ra1 ra2 hx hy hdg hdx HV
          by_cases epq : p = q
          · subst epq
            have g2 : (x != 0) = false := by have := HDX.out rfl; simpa using this
            clear HDX
            go_upto_region 15 with fail
            refine region_in (Below wi.heap.size wi) (by kernel_rfl) (by kernel_rfl) (Below.refl _ _).drew (fun inst => ?_)
            iterate 45 (go_big_quiet_step (fail))
            refine wpQuiet_nil ?_
            intro wd hbd
            have HE : Hid (Below W8.heap.size W8 wd) := Lib.hid (below_next HB9.out HB9.out.size hbd)
            have HTd := Lib.hid (HT9.out.below hbd)
            clear k3
            have k3 := HTd.out.2.2.2.2.1
            clear hbd d0 d3 e1 e2 e3 e4 g1 inst
            go_wp2_with fail
            go_loopw [9] (fun i wr => ∃ r : Nat, r ≤ n ∧ i = .int .i64 r ∧ Below W8.heap.size W8 wr) (fun i _ => n - (intOf i).toNat)
            case atStart => exact ⟨0, by omega, rfl, HE.out⟩
            case round =>
              obtain ⟨r, hr, rfl, hb⟩ := hrel
              have HTe := Lib.hid (HT8.out.below hb)
              have HBe := Lib.hid hb
              clear k3 hb
              have k3 := HTe.out.2.2.2.2.1
              by_cases hlr : r < n
              · obtain ⟨we, rfl⟩ : ∃ we : World, we = wr := ⟨_, rfl⟩
                have X := fun (x : WIn (Below we.heap.size we)) => HTe.out.below x.h
                have d3 := fun (x : WIn (Below we.heap.size we)) => (X x).2.2.2.2.1
                have e1 := fun (x : WIn (Below we.heap.size we)) => (X x).2.2.2.2.2.2.outer p hlp
                have e2 := fun (x : WIn (Below we.heap.size we)) => (X x).2.2.2.2.2.2.inner p p hlp hlq
                have e5 := fun (x : WIn (Below we.heap.size we)) => (X x).2.2.2.2.2.2.outer r hlr
                have e6 := fun (x : WIn (Below we.heap.size we)) => (X x).2.2.2.2.2.2.inner p r hlp hlr
                have e7 := fun (x : WIn (Below we.heap.size we)) => (X x).2.2.2.2.2.2.inner r p hlr hlq
                have htri := HI.out.tri p p r hlp hlq hlr hlr
                have hb6 := fun h => HI.out.bound hn8 hlp hlr h
                have hb7 := fun h => HI.out.bound hn8 hlr hlq h
                obtain ⟨u, hu⟩ : ∃ x, M p r = x := ⟨_, rfl⟩
                obtain ⟨v, hv⟩ : ∃ x, M r p = x := ⟨_, rfl⟩
                rw [HX.out, hu, hv] at htri
                rw [hu] at hb6
                rw [hv] at hb7
                simp only [HX.out] at e2
                simp only [hu] at e6
                simp only [hv] at e7
                have hr0 : (0 : Int) ≤ (r : Int) := by omega
                have hr1 : (r : Int) < (n : Int) := by omega
                clear X hu hv
                by_cases cu : u < 1099511627776
                · have g2 : decide (u < 1099511627776) = true := decide_eq_true cu
                  by_cases cv : v < 1099511627776
                  · have g3 : decide (v < 1099511627776) = true := decide_eq_true cv
                    obtain ⟨b61, b62⟩ := hb6 cu
                    obtain ⟨b71, b72⟩ := hb7 cv
                    have ht := htri cu cv
                    have g4 : decide (u + v < x) = false := decide_eq_false (by omega)
                    clear htri hb6 hb7 cu cv ht
                    go_upto_region 20 with fail
                    refine region_in (Below we.heap.size we) (by kernel_rfl) (by kernel_rfl) (Below.refl _ _).drew (fun inst => ?_)
                    iterate 61 (go_big_quiet_step (fail))
                    refine wpQuiet_nil ?_
                    intro wf hbf
                    clear d3 e1 e2 e5 e6 e7
                    go_wp2_with fail
                    all_goals exact ⟨⟨r + 1, by omega, by go_num, below_next HBe.out HBe.out.size hbf⟩, by simp [intOf]; omega⟩
                  · have g3 : decide (v < 1099511627776) = false := decide_eq_false cv
                    clear htri hb6 hb7 cu cv
                    go_upto_region 20 with fail
                    refine region_in (Below we.heap.size we) (by kernel_rfl) (by kernel_rfl) (Below.refl _ _).drew (fun inst => ?_)
                    iterate 61 (go_big_quiet_step (fail))
                    refine wpQuiet_nil ?_
                    intro wf hbf
                    clear d3 e1 e2 e5 e6 e7
                    go_wp2_with fail
                    all_goals exact ⟨⟨r + 1, by omega, by go_num, below_next HBe.out HBe.out.size hbf⟩, by simp [intOf]; omega⟩
                · have g2 : decide (u < 1099511627776) = false := decide_eq_false cu
                  clear htri hb6 hb7 cu
                  go_upto_region 20 with fail
                  refine region_in (Below we.heap.size we) (by kernel_rfl) (by kernel_rfl) (Below.refl _ _).drew (fun inst => ?_)
                  iterate 61 (go_big_quiet_step (fail))
                  refine wpQuiet_nil ?_
                  intro wf hbf
                  clear d3 e1 e2 e5 e6 e7
                  go_wp2_with fail
                  all_goals exact ⟨⟨r + 1, by omega, by go_num, below_next HBe.out HBe.out.size hbf⟩, by simp [intOf]; omega⟩
              · obtain rfl : r = n := by omega
                go_wp2_with fail
                all_goals exact ⟨⟨p + 1, by omega, by go_num, HBe.out⟩, by simp [intOf]; omega⟩

          · have g2 : ((p : Int) == (q : Int)) = false := by simp; omega
            have EPQ := Lib.hid epq
            clear HDX epq
            go_upto_region 15 with fail
            refine region_in (Below wi.heap.size wi) (by kernel_rfl) (by kernel_rfl) (Below.refl _ _).drew (fun inst => ?_)
            iterate 45 (go_big_quiet_step (fail))
            refine wpQuiet_nil ?_
            intro wd hbd
            have HE : Hid (Below W8.heap.size W8 wd) := Lib.hid (below_next HB9.out HB9.out.size hbd)
            have HTd := Lib.hid (HT9.out.below hbd)
            clear k3
            have k3 := HTd.out.2.2.2.2.1
            clear hbd d0 d3 e1 e2 e3 e4 g1 inst
            go_wp2_with fail
            go_loopw [9] (fun i wr => ∃ r : Nat, r ≤ n ∧ i = .int .i64 r ∧ Below W8.heap.size W8 wr) (fun i _ => n - (intOf i).toNat)
            case atStart => exact ⟨0, by omega, rfl, HE.out⟩
            case round =>
              obtain ⟨r, hr, rfl, hb⟩ := hrel
              have HTe := Lib.hid (HT8.out.below hb)
              have HBe := Lib.hid hb
              clear k3 hb
              have k3 := HTe.out.2.2.2.2.1
              by_cases hlr : r < n
              · obtain ⟨we, rfl⟩ : ∃ we : World, we = wr := ⟨_, rfl⟩
                have X := fun (x : WIn (Below we.heap.size we)) => HTe.out.below x.h
                have d3 := fun (x : WIn (Below we.heap.size we)) => (X x).2.2.2.2.1
                have e1 := fun (x : WIn (Below we.heap.size we)) => (X x).2.2.2.2.2.2.outer p hlp
                have e2 := fun (x : WIn (Below we.heap.size we)) => (X x).2.2.2.2.2.2.inner p q hlp hlq
                have e5 := fun (x : WIn (Below we.heap.size we)) => (X x).2.2.2.2.2.2.outer r hlr
                have e6 := fun (x : WIn (Below we.heap.size we)) => (X x).2.2.2.2.2.2.inner p r hlp hlr
                have e7 := fun (x : WIn (Below we.heap.size we)) => (X x).2.2.2.2.2.2.inner r q hlr hlq
                have htri := HI.out.tri p q r hlp hlq hlr hlr
                have hb6 := fun h => HI.out.bound hn8 hlp hlr h
                have hb7 := fun h => HI.out.bound hn8 hlr hlq h
                obtain ⟨u, hu⟩ : ∃ x, M p r = x := ⟨_, rfl⟩
                obtain ⟨v, hv⟩ : ∃ x, M r q = x := ⟨_, rfl⟩
                rw [HX.out, hu, hv] at htri
                rw [hu] at hb6
                rw [hv] at hb7
                simp only [HX.out] at e2
                simp only [hu] at e6
                simp only [hv] at e7
                have hr0 : (0 : Int) ≤ (r : Int) := by omega
                have hr1 : (r : Int) < (n : Int) := by omega
                clear X hu hv
                by_cases cu : u < 1099511627776
                · have g2 : decide (u < 1099511627776) = true := decide_eq_true cu
                  by_cases cv : v < 1099511627776
                  · have g3 : decide (v < 1099511627776) = true := decide_eq_true cv
                    obtain ⟨b61, b62⟩ := hb6 cu
                    obtain ⟨b71, b72⟩ := hb7 cv
                    have ht := htri cu cv
                    have g4 : decide (u + v < x) = false := decide_eq_false (by omega)
                    clear htri hb6 hb7 cu cv ht
                    go_upto_region 20 with fail
                    refine region_in (Below we.heap.size we) (by kernel_rfl) (by kernel_rfl) (Below.refl _ _).drew (fun inst => ?_)
                    iterate 61 (go_big_quiet_step (fail))
                    refine wpQuiet_nil ?_
                    intro wf hbf
                    clear d3 e1 e2 e5 e6 e7
                    go_wp2_with fail
                    all_goals exact ⟨⟨r + 1, by omega, by go_num, below_next HBe.out HBe.out.size hbf⟩, by simp [intOf]; omega⟩
                  · have g3 : decide (v < 1099511627776) = false := decide_eq_false cv
                    clear htri hb6 hb7 cu cv
                    go_upto_region 20 with fail
                    refine region_in (Below we.heap.size we) (by kernel_rfl) (by kernel_rfl) (Below.refl _ _).drew (fun inst => ?_)
                    iterate 61 (go_big_quiet_step (fail))
                    refine wpQuiet_nil ?_
                    intro wf hbf
                    clear d3 e1 e2 e5 e6 e7
                    go_wp2_with fail
                    all_goals exact ⟨⟨r + 1, by omega, by go_num, below_next HBe.out HBe.out.size hbf⟩, by simp [intOf]; omega⟩
                · have g2 : decide (u < 1099511627776) = false := decide_eq_false cu
                  clear htri hb6 hb7 cu
                  go_upto_region 20 with fail
                  refine region_in (Below we.heap.size we) (by kernel_rfl) (by kernel_rfl) (Below.refl _ _).drew (fun inst => ?_)
                  iterate 61 (go_big_quiet_step (fail))
                  refine wpQuiet_nil ?_
                  intro wf hbf
                  clear d3 e1 e2 e5 e6 e7
                  go_wp2_with fail
                  all_goals exact ⟨⟨r + 1, by omega, by go_num, below_next HBe.out HBe.out.size hbf⟩, by simp [intOf]; omega⟩
              · obtain rfl : r = n := by omega
                go_wp2_with fail
                all_goals exact ⟨⟨q + 1, by omega, by go_num, HBe.out⟩, by simp [intOf]; omega⟩

        · obtain rfl : q = n := by omega
          go_wp2_with fail
          all_goals exact ⟨⟨p + 1, by omega, by go_num, HB9.out⟩, by simp [intOf]; omega⟩
    · obtain rfl : p = n := by omega
      have HTe := Lib.hid (HT8.out.below HB.out)
      go_wp2_with (go_at_call 11; refine (awake16_c _).mono ?_; rintro e w' ⟨rfl, hb⟩)
      go_ret
      exact ⟨rfl, below_next HTe.out.1 HTe.out.1.size hb⟩
end Go.Proofs.Ytnopjijhbflfdaa.C
