/- The reference's LeZone and Closed; the law's pairs: walks. -/
import Derived.Test.YtnopjijhbflfdaaZRClose
import Derived.Test.YtnopjijhbflfdaaZLe
import Derived.Test.YtnopjijhbflfdaaZScan
namespace Go.Proofs.Ytnopjijhbflfdaa.C
open Go.RowKit
set_option linter.unusedSimpArgs false
set_option linter.unusedVariables false
set_option maxRecDepth 100000 in
set_option maxHeartbeats 6400000 in
theorem lezone_c (a b : Addr) (n c1 c2 : Nat) (m1 m2 : Z.M) (w : World) (hn : n ≤ 1000) (h1 : RM w a n m1) (h2 : RM w b n m2) :
    Calls Try.prog 32 #[.agg #[.slice (some a) n c1], .agg #[.slice (some b) n c2]] w (BoolPost (matLe m1 m2 n) w) := by
  have H1 := Lib.hid h1
  have H2 := Lib.hid h2
  have gn : ((n : Int) != (n : Int)) = false := by simp
  clear h1 h2
  go_enter Try.func32, Try.ntmps32
  go_upto_region 1 with fail
  refine at_world (fun W => Hid (Below w.heap.size w W ∧ w.heap.size + 1 < W.heap.size) ∧ (∀ o, W.cell? ⟨w.heap.size, o, none⟩ = [Value.slice (some a) n c1][o]?) ∧ (∀ o, W.cell? ⟨w.heap.size + 1, o, none⟩ = [Value.slice (some b) n c2][o]?)) ⟨Lib.hid ⟨(by repeat' (first | exact Below.refl _ _ | (refine Below.alloc ?_ ?_ _) | (refine Below.setCell ?_ ?_ _) | (refine Below.drew ?_) | (refine below_next ?_ ?_ (by assumption)) | omega | (simp; done) | (simp; omega))), by simp⟩, (by intro o; simp [go_sem]), (by intro o; simp [go_sem])⟩ ?_
  intro W0 ⟨HB0, k0, k1⟩
  go_wp2_with fail
  have K0 := Lib.hid k0
  have K1 := Lib.hid k1
  clear k0 k1
  go_loopw [5] (fun i wr => ∃ k : Nat, k ≤ n ∧ i = .int .i64 k ∧ Hid (∀ i, i < k → ∀ j, j < n → m1 i j ≤ m2 i j) ∧ Below W0.heap.size W0 wr) (fun i _ => n - (intOf i).toNat)
  case atStart => exact ⟨0, by omega, rfl, Lib.hid (fun i hi => absurd hi (by omega)), Below.refl _ _⟩
  case round =>
    obtain ⟨q, hq, rfl, HK, hb⟩ := hrel
    have HB := Lib.hid hb
    have HW := Lib.hid (HB0.out.1.trans (hb.mono HB0.out.1.size))
    have k0 := fun o => (hb.cell (p := ⟨w.heap.size, o, none⟩) (by have := HB0.out.2; show w.heap.size < _; omega)).trans (K0.out o)
    have k1 := fun o => (hb.cell (p := ⟨w.heap.size + 1, o, none⟩) (by have := HB0.out.2; show w.heap.size + 1 < _; omega)).trans (K1.out o)
    clear hb
    by_cases hlt : q < n
    · have hq0 : (0 : Int) ≤ (q : Int) := by omega
      have hq1 : (q : Int) < (n : Int) := by omega
      obtain ⟨wo, rfl⟩ : ∃ wo : World, wo = wr := ⟨_, rfl⟩
      go_wp2_with fail
      clear k0 k1
      go_loopw [6] (fun i wr => ∃ t : Nat, t ≤ n ∧ i = .int .i64 t ∧ Hid (∀ j, j < t → m1 q j ≤ m2 q j) ∧ Below W0.heap.size W0 wr) (fun i _ => n - (intOf i).toNat)
      case atStart => exact ⟨0, by omega, rfl, Lib.hid (fun j hj => absurd hj (by omega)), HB.out⟩
      case round =>
        obtain ⟨t, ht, rfl, HL, hb⟩ := hrel
        have HBi := Lib.hid hb
        have HWi := Lib.hid (HB0.out.1.trans (hb.mono HB0.out.1.size))
        have k0 := fun o => (hb.cell (p := ⟨w.heap.size, o, none⟩) (by have := HB0.out.2; show w.heap.size < _; omega)).trans (K0.out o)
        have k1 := fun o => (hb.cell (p := ⟨w.heap.size + 1, o, none⟩) (by have := HB0.out.2; show w.heap.size + 1 < _; omega)).trans (K1.out o)
        have hsz : w.heap.size + 1 < wr.heap.size := by have := HB0.out.2; have := hb.size; omega
        by_cases hlu : t < n
        · obtain ⟨Ra, Ca, ha1, ha2⟩ := H1.out.below HWi.out
          obtain ⟨Rb, Cb, hb1, hb2⟩ := H2.out.below HWi.out
          have c1 := (ha1 q hlt).1
          have c2 := ha2 q t hlt hlu
          have c3 := (hb1 q hlt).1
          have c4 := hb2 q t hlt hlu
          have d1 := fun (x : WIn (Below wr.heap.size wr)) => cell_later x.h c1
          have d2 := fun (x : WIn (Below wr.heap.size wr)) => cell_later x.h c2
          have d3 := fun (x : WIn (Below wr.heap.size wr)) => cell_later x.h c3
          have d4 := fun (x : WIn (Below wr.heap.size wr)) => cell_later x.h c4
          have d5 := fun (x : WIn (Below wr.heap.size wr)) (o : Nat) => (x.h.cell (p := ⟨w.heap.size, o, none⟩) (by show w.heap.size < _; omega)).trans (k0 o)
          have d6 := fun (x : WIn (Below wr.heap.size wr)) (o : Nat) => (x.h.cell (p := ⟨w.heap.size + 1, o, none⟩) (by show w.heap.size + 1 < _; omega)).trans (k1 o)
          have ht0 : (0 : Int) ≤ (t : Int) := by omega
          have ht1 : (t : Int) < (n : Int) := by omega
          obtain ⟨x, hx⟩ : ∃ x, m1 q t = x := ⟨_, rfl⟩
          obtain ⟨y, hy⟩ : ∃ x, m2 q t = x := ⟨_, rfl⟩
          simp only [hx] at d2
          simp only [hy] at d4
          have HV := Lib.hid (And.intro hx hy)
          clear hx hy hb ha1 ha2 hb1 hb2 c1 c2 c3 c4
          obtain ⟨wi, rfl⟩ : ∃ wi : World, wi = wr := ⟨_, rfl⟩
          by_cases cx : y < x
          · have g2 : decide (y < x) = true := decide_eq_true cx
            have e0 : Hid (matLe m1 m2 n = false) := Lib.hid (decide_eq_false (fun h => by have := h q hlt t hlu; rw [HV.out.1, HV.out.2] at this; omega))
            clear cx
            go_upto_region 9 with fail
            clear k0 k1
            refine region_in (Below wi.heap.size wi) (by kernel_rfl) (by kernel_rfl) (Below.refl _ _).drew (fun inst => ?_)
            iterate 17 (go_big_quiet_step (fail))
            refine wpQuiet_nil ?_
            intro wd hbd
            clear d1 d2 d3 d4 d5 d6
            go_wp2_with fail
            go_ret
            exact ⟨by rw [e0.out]; rfl, below_next HWi.out HWi.out.size hbd⟩
          · have g2 : decide (y < x) = false := decide_eq_false cx
            have HL2 : Hid (∀ j, j < t + 1 → m1 q j ≤ m2 q j) := Lib.hid (fun j hj => by
              by_cases w : j = t
              · subst w; rw [HV.out.1, HV.out.2]; omega
              · exact HL.out j (by omega))
            clear cx
            go_upto_region 9 with fail
            clear k0 k1
            refine region_in (Below wi.heap.size wi) (by kernel_rfl) (by kernel_rfl) (Below.refl _ _).drew (fun inst => ?_)
            iterate 17 (go_big_quiet_step (fail))
            refine wpQuiet_nil ?_
            intro wd hbd
            clear d1 d2 d3 d4 d5 d6
            go_wp2_with fail
            all_goals exact ⟨⟨t + 1, by omega, by go_num, HL2, HBi.out.trans (hbd.mono HBi.out.size)⟩, by simp [intOf]; omega⟩
        · obtain rfl : t = n := by omega
          have HK2 : Hid (∀ i, i < q + 1 → ∀ j, j < t → m1 i j ≤ m2 i j) := Lib.hid (fun i hi j hj => by
            by_cases w : i = q
            · subst w; exact HL.out j hj
            · exact HK.out i (by omega) j hj)
          clear ht hlu
          go_wp2_with fail
          all_goals exact ⟨⟨q + 1, by omega, by go_num, HK2, hb⟩, by simp [intOf]; omega⟩
    · obtain rfl : q = n := by omega
      have e0 : Hid (matLe m1 m2 q = true) := Lib.hid (decide_eq_true (fun i hi j hj => HK.out i hi j hj))
      clear hq hlt
      go_wp2_with fail
      go_ret
      exact ⟨by rw [e0.out]; rfl, HW.out⟩
def IsClosed (n : Nat) (L : Nat → Nat) (m : Z.M) : Prop := 1 ≤ n ∧ (∀ i, i < n → L i = n) ∧ Z.Fit m n
def RClosedPost (n : Nat) (L : Nat → Nat) (m : Z.M) (w : World) (e : Ending) (w' : World) : Prop := (∃ b, e = .returned (.bool b) ∧ (b = true → IsClosed n L m)) ∧ Below w.heap.size w w'
set_option maxRecDepth 100000 in
set_option maxHeartbeats 6400000 in
theorem rclosed_c (A : Option Addr) (n cap : Nat) (L : Nat → Nat) (m : Z.M) (w : World) (h : GM w A n L m) (hn : n ≤ 1000) :
    Calls Try.prog 50 #[.agg #[.slice A n cap]] w (RClosedPost n L m w) := by
  have H := Lib.hid h
  clear h
  have SQ := fun W (hb : Below w.heap.size w W) => square_c A n cap L m W (H.out.below hb)
  obtain ⟨sq, hsq⟩ : ∃ s, sqB n L = s := ⟨_, rfl⟩
  rw [hsq] at SQ
  have HSQ := Lib.hid hsq
  clear hsq
  by_cases hz : n = 0 ∨ sq = false
  · have g : Hid (n = 0 ∨ sq = false) := Lib.hid hz
    clear hz
    obtain ⟨z, hz⟩ : ∃ b, ((n : Int) == 0) = b := ⟨_, rfl⟩
    have HZ : Hid (sq = true → z = true) := Lib.hid (fun e => by
      rw [← hz]
      rcases g.out with q | q
      · rw [q]; rfl
      · rw [e] at q; cases q)
    go_enter Try.func50, Try.ntmps50
    go_upto_region 1 with fail
    refine at_world (fun W => Hid (Below w.heap.size w W) ∧ w.heap.size < W.heap.size ∧ (∀ o, W.cell? ⟨w.heap.size, o, none⟩ = [Value.slice A n cap][o]?)) ⟨Lib.hid (by repeat' (first | exact Below.refl _ _ | (refine Below.alloc ?_ ?_ _) | (refine Below.setCell ?_ ?_ _) | (refine Below.drew ?_) | (refine below_next ?_ ?_ (by assumption)) | omega | (simp; done) | (simp; omega))), by simp, by intro o; simp [go_sem]⟩ ?_
    intro W0 ⟨HB, hs, k0⟩
    cases sq with
    | false =>
      go_wp2_with (go_at_call 35; refine (SQ _ HB.out).mono ?_; rintro e w' ⟨rfl, hb⟩; replace HB := Lib.hid (below_next HB.out HB.out.size hb); clear hb)
      go_ret
      exact ⟨⟨_, rfl, fun q => by cases q⟩, HB.out⟩
    | true =>
      obtain rfl := HZ.out rfl
      go_wp2_with (go_at_call 35; refine (SQ _ HB.out).mono ?_; rintro e w' ⟨rfl, hb⟩; have hbz := hb.size; replace k0 := fun (o : Nat) => (hb.cell (p := ⟨w.heap.size, o, none⟩) (show w.heap.size < _ from by omega)).trans (k0 o); replace hs := Nat.lt_of_lt_of_le hs hbz; replace HB := Lib.hid (below_next HB.out HB.out.size hb); clear hb hbz)
      go_ret
      exact ⟨⟨_, rfl, fun q => by cases q⟩, HB.out⟩
  · obtain rfl : sq = true := by cases sq with | true => rfl | false => exact absurd (.inr rfl) hz
    have hn1 : 1 ≤ n := by omega
    have hz0 : ((n : Int) == 0) = false := by simp; omega
    have hL : ∀ i, i < n → L i = n := of_decide_eq_true HSQ.out
    obtain ⟨a, rfl, hrm⟩ := H.out.rm hn1 hL
    have HM := Lib.hid hrm
    have HL0 := Lib.hid hL
    clear hz hL hrm H
    go_enter Try.func50, Try.ntmps50
    go_upto_region 1 with fail
    refine at_world (fun W => Hid (Below w.heap.size w W) ∧ w.heap.size < W.heap.size ∧ (∀ o, W.cell? ⟨w.heap.size, o, none⟩ = [Value.slice (some a) n cap][o]?)) ⟨Lib.hid (by repeat' (first | exact Below.refl _ _ | (refine Below.alloc ?_ ?_ _) | (refine Below.setCell ?_ ?_ _) | (refine Below.drew ?_) | (refine below_next ?_ ?_ (by assumption)) | omega | (simp; done) | (simp; omega))), by simp, by intro o; simp [go_sem]⟩ ?_
    intro W0 ⟨HB, hs, k0⟩
    go_upto_region 3 with (go_at_call 35; refine (SQ _ HB.out).mono ?_; rintro e w' ⟨rfl, hb⟩; have hbz := hb.size; replace k0 := fun (o : Nat) => (hb.cell (p := ⟨w.heap.size, o, none⟩) (show w.heap.size < _ from by omega)).trans (k0 o); replace hs := Nat.lt_of_lt_of_le hs hbz; replace HB := Lib.hid (below_next HB.out HB.out.size hb); clear hb hbz)
    refine at_world (fun W => Hid (Below w.heap.size w W) ∧ w.heap.size < W.heap.size ∧ (∀ o, W.cell? ⟨w.heap.size, o, none⟩ = [Value.slice (some a) n cap][o]?)) ⟨HB, hs, k0⟩ ?_
    clear HB hs k0 SQ HSQ
    intro W1 ⟨HB, hs, k0⟩
    go_wp2_with fail
    go_loop [3] (fun i => ∃ k : Nat, k ≤ n ∧ i = .int .i64 k ∧ Hid (∀ i, i < k → ∀ j, j < n → -1099511627776 ≤ m i j ∧ m i j ≤ 1099511627776)) (fun i => n - (intOf i).toNat)
    case atStart => exact ⟨0, by omega, rfl, Lib.hid (fun i hi => absurd hi (by omega))⟩
    case round =>
      obtain ⟨k, hk, rfl, HF⟩ := hrel
      by_cases hlt : k < n
      · obtain ⟨R, C, h1, h2⟩ := HM.out.below HB.out
        have c1 := (h1 k hlt).1
        have H2 := Lib.hid (fun j hj => h2 k j hlt hj)
        have hk0 : (0 : Int) ≤ (k : Int) := by omega
        have hk1 : (k : Int) < (n : Int) := by omega
        clear h1 h2
        go_wp2_with fail
        go_loop [4] (fun i => ∃ t : Nat, t ≤ n ∧ i = .int .i64 t ∧ Hid (∀ j, j < t → -1099511627776 ≤ m k j ∧ m k j ≤ 1099511627776)) (fun i => n - (intOf i).toNat)
        case atStart => exact ⟨0, by omega, rfl, Lib.hid (fun i hi => absurd hi (by omega))⟩
        case round =>
          obtain ⟨t, ht, rfl, HG⟩ := hrel
          by_cases hlu : t < n
          · have c2 := H2.out t hlu
            have ht0 : (0 : Int) ≤ (t : Int) := by omega
            have ht1 : (t : Int) < (n : Int) := by omega
            obtain ⟨x, hx⟩ : ∃ x, m k t = x := ⟨_, rfl⟩
            rw [hx] at c2
            have HX := Lib.hid hx
            clear hx
            by_cases cc : x < -1099511627776
            · have g1 : decide (x < -1099511627776) = true := decide_eq_true cc
              clear cc
              go_wp2_with fail
              go_ret
              exact ⟨⟨_, rfl, fun q => by cases q⟩, HB.out⟩
            have n1 := Lib.hid cc
            clear cc
            by_cases cc : 1099511627776 < x
            · have g1 : decide (x < -1099511627776) = false := decide_eq_false n1.out
              have g2 : decide (1099511627776 < x) = true := decide_eq_true cc
              clear cc
              go_wp2_with fail
              go_ret
              exact ⟨⟨_, rfl, fun q => by cases q⟩, HB.out⟩
            have n2 := Lib.hid cc
            clear cc
            have g1 : decide (x < -1099511627776) = false := decide_eq_false n1.out
            have g2 : decide (1099511627776 < x) = false := decide_eq_false n2.out
            have HG2 : Hid (∀ j, j < t + 1 → -1099511627776 ≤ m k j ∧ m k j ≤ 1099511627776) := Lib.hid (fun j hj => by
              by_cases q : j = t
              · subst q; rw [HX.out]; have q1 := n1.out; have q2 := n2.out; omega
              · exact HG.out j (by omega))
            go_wp2_with fail
            all_goals exact ⟨⟨t + 1, by omega, by go_num, HG2⟩, by simp [intOf]; omega⟩
          · have HF2 : Hid (∀ i, i < k + 1 → ∀ j, j < n → -1099511627776 ≤ m i j ∧ m i j ≤ 1099511627776) := Lib.hid (fun i hi j hj => by
              by_cases q : i = k
              · subst q; exact HG.out j (by omega)
              · exact HF.out i (by omega) j hj)
            have htl : t = n := by omega
            subst htl
            go_wp2_with fail
            all_goals exact ⟨⟨k + 1, by omega, by go_num, HF2⟩, by simp [intOf]; omega⟩
      · obtain rfl : k = n := by omega
        have HFT : Hid (Z.Fit m k) := Lib.hid (fun i j hi hj => HF.out i hi j hj)
        have HCL : Hid (IsClosed k L m) := Lib.hid ⟨hn1, HL0.out, HFT.out⟩
        clear hk hlt HF
        go_upto_region 12 with (go_at_call 22; refine (rclose_c a k cap m _ hn1 (by omega) (HM.out.below HB.out) HFT.out).mono ?_; rintro e w5 ⟨hb5, ⟨ok5, B5, R5, C5, cap5, rfl, hcap5, hom5⟩ | ⟨ok5, rfl⟩⟩)
        · have k0' := fun (o : Nat) => (hb5.cell (p := ⟨w.heap.size, o, none⟩) hs).trans (k0 o)
          refine at_world (fun W => Hid (Below w.heap.size w W) ∧ Hid (RM W ⟨B5, 0, none⟩ k (Z.rCloseM m k)) ∧ (∀ o, W.cell? ⟨w.heap.size, o, none⟩ = [Value.slice (some a) k cap][o]?) ∧ (∀ o, W.cell? ⟨w5.heap.size, o, none⟩ = [Value.slice (some ⟨B5, 0, none⟩) k cap5][o]?)) ⟨Lib.hid ((below_next HB.out HB.out.size hb5).alloc (by have := HB.out.size; have := hb5.size; omega) _), Lib.hid (hom5.rm.below ((Below.refl _ _).alloc (Nat.le_refl _) _)), fun o => (((Below.refl _ _).alloc (Nat.le_refl _) _).cell (p := ⟨w.heap.size, o, none⟩) (by have := hb5.size; show w.heap.size < w5.heap.size; omega)).trans (k0' o), by intro o; simp [go_sem]⟩ ?_
          obtain ⟨b5, hb5e⟩ : ∃ b, w5.heap.size = b := ⟨_, rfl⟩
          simp only [hb5e]
          clear k0 k0' hb5 hs HB hom5 hcap5 ok5 hb5e w5
          intro W ⟨HB, HO, k0, k5⟩
          go_wp2_with (go_at_call 13; refine (sameZone_c ⟨B5, 0, none⟩ a k cap5 cap _ _ _ (by omega) HO.out (HM.out.below HB.out)).mono ?_; rintro e w' ⟨rfl, hb⟩; replace HB := Lib.hid (below_next HB.out HB.out.size hb); clear hb)
          all_goals
            go_ret
            exact ⟨⟨_, rfl, fun _ => HCL.out⟩, HB.out⟩
        · refine at_world (fun W => Hid (Below w.heap.size w W)) (Lib.hid ((below_next HB.out HB.out.size hb5).alloc (by have := HB.out.size; have := hb5.size; omega) _)) ?_
          clear k0 hb5 hs HB
          intro W HB
          go_wp2_with fail
          go_ret
          exact ⟨⟨_, rfl, fun _ => HCL.out⟩, HB.out⟩
def IsPair (n1 n2 : Nat) (L1 L2 : Nat → Nat) (m1 m2 : Z.M) : Prop := n1 = n2 ∧ n1 ≤ 8 ∧ IsClosed n1 L1 m1 ∧ IsClosed n2 L2 m2
def PairsPost (n1 n2 : Nat) (L1 L2 : Nat → Nat) (m1 m2 : Z.M) (w : World) (e : Ending) (w' : World) : Prop := (∃ b, e = .returned (.bool b) ∧ (b = true → IsPair n1 n2 L1 L2 m1 m2)) ∧ Below w.heap.size w w'
set_option maxRecDepth 100000 in
set_option maxHeartbeats 3200000 in
theorem pairs_c (A1 : Option Addr) (n1 cap1 : Nat) (L1 : Nat → Nat) (m1 : Z.M) (A2 : Option Addr) (n2 cap2 : Nat) (L2 : Nat → Nat) (m2 : Z.M) (w : World) (h1 : GM w A1 n1 L1 m1) (h2 : GM w A2 n2 L2 m2) :
    Calls Try.prog 26 #[.agg #[.slice A1 n1 cap1], .agg #[.slice A2 n2 cap2]] w (PairsPost n1 n2 L1 L2 m1 m2 w) := by
  have H1 := Lib.hid h1
  have H2 := Lib.hid h2
  clear h1 h2
  by_cases h8 : n1 ≤ 8
  · have g8 : decide ((n1 : Int) ≤ 8) = true := decide_eq_true (by omega)
    by_cases he : n1 = n2
    · subst he
      have gn : ((n1 : Int) == (n1 : Int)) = true := by simp
      have C1 := fun W (hb : Below w.heap.size w W) => rclosed_c A1 n1 cap1 L1 m1 W (H1.out.below hb) (by omega)
      have C2 := fun W (hb : Below w.heap.size w W) => rclosed_c A2 n1 cap2 L2 m2 W (H2.out.below hb) (by omega)
      have H8 := Lib.hid h8
      clear h8
      go_enter Try.func26, Try.ntmps26
      go_upto_region 1 with fail
      refine at_world (fun W => Hid (Below w.heap.size w W) ∧ w.heap.size + 1 < W.heap.size ∧ (∀ o, W.cell? ⟨w.heap.size, o, none⟩ = [Value.slice A1 n1 cap1][o]?) ∧ (∀ o, W.cell? ⟨w.heap.size + 1, o, none⟩ = [Value.slice A2 n1 cap2][o]?)) ⟨Lib.hid (by repeat' (first | exact Below.refl _ _ | (refine Below.alloc ?_ ?_ _) | (refine Below.setCell ?_ ?_ _) | (refine Below.drew ?_) | (refine below_next ?_ ?_ (by assumption)) | omega | (simp; done) | (simp; omega))), by simp, (by intro o; simp [go_sem]), (by intro o; simp [go_sem])⟩ ?_
      intro W0 ⟨HB, hs, k0, k1⟩
      go_wp2_with (first | (go_at_call 50; refine (C1 _ HB.out).mono ?_; clear C1; rintro e w' ⟨⟨_ | _, rfl, hq1⟩, hb⟩; all_goals (have hbz := hb.size; replace k0 := fun (o : Nat) => (hb.cell (p := ⟨w.heap.size, o, none⟩) (show w.heap.size < _ from by omega)).trans (k0 o); replace k1 := fun (o : Nat) => (hb.cell (p := ⟨w.heap.size + 1, o, none⟩) (show w.heap.size + 1 < _ from by omega)).trans (k1 o); replace hs := Nat.lt_of_lt_of_le hs hbz; replace HB := Lib.hid (below_next HB.out HB.out.size hb); replace hq1 := Lib.hid hq1; clear hb hbz)) | (go_at_call 50; refine (C2 _ HB.out).mono ?_; clear C2; rintro e w' ⟨⟨b2, rfl, hq2⟩, hb⟩; replace HB := Lib.hid (below_next HB.out HB.out.size hb); replace hq2 := Lib.hid hq2; clear hb))
      · go_ret
        exact ⟨⟨_, rfl, fun q => by cases q⟩, HB.out⟩
      · go_ret
        exact ⟨⟨_, rfl, fun q => ⟨rfl, H8.out, hq1.out (by simp), hq2.out q⟩⟩, HB.out⟩
    · have gn : ((n1 : Int) == (n2 : Int)) = false := by simp; omega
      go_enter Try.func26, Try.ntmps26
      go_upto_region 1 with fail
      refine at_world (fun W => Hid (Below w.heap.size w W) ∧ (∀ o, W.cell? ⟨w.heap.size, o, none⟩ = [Value.slice A1 n1 cap1][o]?) ∧ (∀ o, W.cell? ⟨w.heap.size + 1, o, none⟩ = [Value.slice A2 n2 cap2][o]?)) ⟨Lib.hid (by repeat' (first | exact Below.refl _ _ | (refine Below.alloc ?_ ?_ _) | (refine Below.setCell ?_ ?_ _) | (refine Below.drew ?_) | (refine below_next ?_ ?_ (by assumption)) | omega | (simp; done) | (simp; omega))), (by intro o; simp [go_sem]), (by intro o; simp [go_sem])⟩ ?_
      intro W0 ⟨HB, k0, k1⟩
      go_wp2_with fail
      go_ret
      exact ⟨⟨_, rfl, fun q => by cases q⟩, HB.out⟩
  · have g8 : decide ((n1 : Int) ≤ 8) = false := decide_eq_false (by omega)
    go_enter Try.func26, Try.ntmps26
    go_upto_region 1 with fail
    refine at_world (fun W => Hid (Below w.heap.size w W) ∧ (∀ o, W.cell? ⟨w.heap.size, o, none⟩ = [Value.slice A1 n1 cap1][o]?) ∧ (∀ o, W.cell? ⟨w.heap.size + 1, o, none⟩ = [Value.slice A2 n2 cap2][o]?)) ⟨Lib.hid (by repeat' (first | exact Below.refl _ _ | (refine Below.alloc ?_ ?_ _) | (refine Below.setCell ?_ ?_ _) | (refine Below.drew ?_) | (refine below_next ?_ ?_ (by assumption)) | omega | (simp; done) | (simp; omega))), (by intro o; simp [go_sem]), (by intro o; simp [go_sem])⟩ ?_
    intro W0 ⟨HB, k0, k1⟩
    go_wp2_with fail
    go_ret
    exact ⟨⟨_, rfl, fun q => by cases q⟩, HB.out⟩
end Go.Proofs.Ytnopjijhbflfdaa.C
