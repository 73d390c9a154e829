/- r14.Same: walk. -/
import Derived.Test.YtdmphpkiclfhhaaSt6
namespace Go.Proofs.Ytdmphpkiclfhhaa.C
open Go.RowKit
set_option linter.unusedSimpArgs false
set_option linter.unusedVariables false
attribute [local go_sem] fieldItv0 fieldItv1
theorem CC.at {w : World} {B : Option Addr} {m : Nat} {ln : Nat → Nat} {rr : Nat → Nat → Int × Int} (h : CC w B m ln rr) {k : Nat} (hk : k < m) :
    ∃ (ad : Addr) (A : Option Addr) (c : Nat), B = some ad ∧ w.cell? (ad.add k) = some (.slice A (ln k) c) ∧ CR w A (ln k) (rr k) := by
  obtain ⟨ad, e, hl, hc⟩ := h.2.2 (by omega)
  obtain ⟨A, c, h1, h2⟩ := hc k hk
  exact ⟨ad, A, c, e, h1, h2⟩
def sameCC (ln1 ln2 : Nat → Nat) (r1 r2 : Nat → Nat → Int × Int) (m : Nat) : Bool := decide (∀ i, i < m → sameC (r1 i) (r2 i) (ln1 i) (ln2 i) = true)
set_option maxRecDepth 100000 in
set_option maxHeartbeats 3200000 in
theorem same_ok (a b : Addr) (A B : Option Addr) (n c1 c2 m d1 d2 : Nat) (M1 M2 : Z.M) (ln1 ln2 : Nat → Nat) (r1 r2 : Nat → Nat → Int × Int) (w : World) (hn : n ≤ 1000) (h1 : RM w a n M1) (h2 : RM w b n M2) (g1 : CC w A m ln1 r1) (g2 : CC w B m ln2 r2) :
    Calls Try.prog 13 #[.agg #[.bool false, .slice (some a) n c1, .slice A m d1], .agg #[.bool false, .slice (some b) n c2, .slice B m d2]] w (BoolPost (sameCC ln1 ln2 r1 r2 m && Z.alikeB M1 M2 n) w) := by
  have hmax := g1.1
  have H1 := Lib.hid h1
  have H2 := Lib.hid h2
  have G1 := Lib.hid g1
  have G2 := Lib.hid g2
  clear h1 h2 g1 g2
  go_enter Try.func13, Try.ntmps13
  go_upto_region 1 with fail
  refine at_world (fun W => Hid (Below w.heap.size w W ∧ w.heap.size + 1 < W.heap.size) ∧ (∀ o, W.cell? ⟨w.heap.size, o, none⟩ = [Value.bool false, Value.slice (some a) n c1, Value.slice A m d1][o]?) ∧ (∀ o, W.cell? ⟨w.heap.size + 1, o, none⟩ = [Value.bool false, Value.slice (some b) n c2, Value.slice B m d2][o]?)) ⟨Lib.hid ⟨(by repeat' (first | exact Below.refl _ _ | (refine Below.alloc ?_ ?_ _) | (refine Below.setCell ?_ ?_ _) | (refine Below.drew ?_) | (refine below_next ?_ ?_ (by assumption)) | omega | (simp; done) | (simp; omega))), by simp⟩, (by intro o; simp [go_sem]), (by intro o; simp [go_sem])⟩ ?_
  intro W0 ⟨HB0, k0, k1⟩
  have hz0 := HB0.out.2
  go_upto_region 3 with fail
  go_wp2_with fail
  have K0 := Lib.hid k0
  have K1 := Lib.hid k1
  clear k0 k1 hz0
  go_loopw [5] (fun i wr => ∃ k : Nat, k ≤ m ∧ i = .int .i64 k ∧ Hid (∀ i, i < k → sameC (r1 i) (r2 i) (ln1 i) (ln2 i) = true) ∧ Below W0.heap.size W0 wr) (fun i _ => m - (intOf i).toNat)
  case atStart => exact ⟨0, by omega, rfl, Lib.hid (fun i hi => absurd hi (by omega)), Below.refl _ _⟩
  case round =>
    obtain ⟨k, hk, rfl, HF, hb⟩ := hrel
    have HB := Lib.hid hb
    have HW := Lib.hid (HB0.out.1.trans (hb.mono HB0.out.1.size))
    have k0 := fun o => (hb.cell (p := ⟨w.heap.size, o, none⟩) (by have := HB0.out.2; show w.heap.size < _; omega)).trans (K0.out o)
    have k1 := fun o => (hb.cell (p := ⟨w.heap.size + 1, o, none⟩) (by have := HB0.out.2; show w.heap.size + 1 < _; omega)).trans (K1.out o)
    have hsz : w.heap.size + 1 < wr.heap.size := by have := HB0.out.2; have := hb.size; omega
    clear hb
    by_cases hlt : k < m
    · obtain ⟨ad, A1, e1, rfl, x1, y1⟩ := (G1.out.below HW.out).at hlt
      obtain ⟨bd, A2, e2, rfl, x2, y2⟩ := (G2.out.below HW.out).at hlt
      have q1 := fun (x : WIn (Below wr.heap.size wr)) => cell_later x.h x1
      have q2 := fun (x : WIn (Below wr.heap.size wr)) => cell_later x.h x2
      have q3 := fun (x : WIn (Below wr.heap.size wr)) (o : Nat) => (x.h.cell (p := ⟨w.heap.size, o, none⟩) (by show w.heap.size < _; omega)).trans (k0 o)
      have q4 := fun (x : WIn (Below wr.heap.size wr)) (o : Nat) => (x.h.cell (p := ⟨w.heap.size + 1, o, none⟩) (by show w.heap.size + 1 < _; omega)).trans (k1 o)
      have Y := Lib.hid (And.intro y1 y2)
      have IC := fun (x : WIn (Below wr.heap.size wr)) => sameI_c A1 A2 (ln1 k) (ln2 k) e1 e2 (r1 k) (r2 k) x.w (Y.out.1.below x.h) (Y.out.2.below x.h)
      obtain ⟨l1, hl1⟩ : ∃ t, ln1 k = t := ⟨_, rfl⟩
      obtain ⟨l2, hl2⟩ : ∃ t, ln2 k = t := ⟨_, rfl⟩
      have HL := Lib.hid (And.intro hl1 hl2)
      simp only [hl1] at IC q1
      simp only [hl2] at IC q2
      have hk0 : (0 : Int) ≤ (k : Int) := by omega
      have hk1 : (k : Int) < (m : Int) := by omega
      clear x1 x2 y1 y2 hl1 hl2
      obtain ⟨wo, rfl⟩ : ∃ wo : World, wo = wr := ⟨_, rfl⟩
      obtain ⟨s, hs⟩ : ∃ s, sameC (r1 k) (r2 k) l1 l2 = s := ⟨_, rfl⟩
      simp only [hs] at IC
      rw [← HL.out.1, ← HL.out.2] at hs
      cases s
      · have e0 : Hid (sameCC ln1 ln2 r1 r2 m = false) := Lib.hid (decide_eq_false (fun h => by have := h k hlt; rw [hs] at this; exact absurd this (by simp)))
        clear hs
        go_upto_region 8 with fail
        refine region_in (Below wo.heap.size wo) (by kernel_rfl) (by kernel_rfl) (Below.refl _ _).drew (fun inst => ?_)
        iterate 12 (go_big_quiet_step ((go_at_call 48; exact call_grow (Nat.le_refl _) (IC _))))
        refine wpQuiet_nil ?_
        intro wd hbd
        have HE : Hid (Below w.heap.size w wd) := Lib.hid (below_next HW.out HW.out.size hbd)
        clear q1 q2 q3 q4 IC k0 k1 hbd
        go_wp2_with fail
        go_ret
        exact ⟨by rw [e0.out]; rfl, HE.out⟩
      · have HF2 : Hid (∀ i, i < k + 1 → sameC (r1 i) (r2 i) (ln1 i) (ln2 i) = true) := Lib.hid (fun i hi => by
          by_cases q : i = k
          · subst q; exact hs
          · exact HF.out i (by omega))
        clear hs
        go_upto_region 8 with fail
        refine region_in (Below wo.heap.size wo) (by kernel_rfl) (by kernel_rfl) (Below.refl _ _).drew (fun inst => ?_)
        iterate 12 (go_big_quiet_step ((go_at_call 48; exact call_grow (Nat.le_refl _) (IC _))))
        refine wpQuiet_nil ?_
        intro wd hbd
        have HE : Hid (Below W0.heap.size W0 wd) := Lib.hid (below_next HB.out HB.out.size hbd)
        clear q1 q2 q3 q4 IC k0 k1 hbd
        go_wp2_with fail
        all_goals exact ⟨⟨k + 1, by omega, by go_num, HF2, HE.out⟩, by simp [intOf]; omega⟩
    · obtain rfl : k = m := by omega
      have e0 : Hid (sameCC ln1 ln2 r1 r2 k = true) := Lib.hid (decide_eq_true (fun i hi => HF.out i hi))
      have SZ := Lib.hid (sameZone_c a b n c1 c2 M1 M2 wr hn (H1.out.below HW.out) (H2.out.below HW.out))
      clear hk hlt
      go_wp2_with (go_at_call 49; refine (SZ.out).mono ?_; rintro e w2 ⟨rfl, hb2⟩; have HE : Hid (Below w.heap.size w w2) := Lib.hid (below_next HW.out HW.out.size hb2); clear hb2)
      go_ret
      exact ⟨by rw [e0.out]; simp, HE.out⟩
theorem same_bots (A1 A2 B1 B2 : Option Addr) (c1 c2 d1 d2 : Nat) (w : World) :
    Calls Try.prog 13 #[.agg #[.bool true, .slice A1 0 c1, .slice A2 0 c2], .agg #[.bool true, .slice B1 0 d1, .slice B2 0 d2]] w (BoolPost true w) := by
  go_enter Try.func13, Try.ntmps13
  go_wp2_with fail
  go_ret
  exact ⟨rfl, (by repeat' (first | exact Below.refl _ _ | (refine Below.alloc ?_ ?_ _) | (refine Below.setCell ?_ ?_ _) | (refine Below.drew ?_) | (refine below_next ?_ ?_ (by assumption)) | omega | (simp; done) | (simp; omega)))⟩
theorem same_bot1 (A1 A2 B1 B2 : Option Addr) (n1 n2 k1 k2 c1 c2 d1 d2 : Nat) (w : World) :
    Calls Try.prog 13 #[.agg #[.bool true, .slice A1 n1 c1, .slice A2 n2 c2], .agg #[.bool false, .slice B1 k1 d1, .slice B2 k2 d2]] w (BoolPost false w) := by
  go_enter Try.func13, Try.ntmps13
  go_wp2_with fail
  go_ret
  exact ⟨rfl, (by repeat' (first | exact Below.refl _ _ | (refine Below.alloc ?_ ?_ _) | (refine Below.setCell ?_ ?_ _) | (refine Below.drew ?_) | (refine below_next ?_ ?_ (by assumption)) | omega | (simp; done) | (simp; omega)))⟩
theorem same_bot2 (A1 A2 B1 B2 : Option Addr) (n1 n2 k1 k2 c1 c2 d1 d2 : Nat) (w : World) :
    Calls Try.prog 13 #[.agg #[.bool false, .slice A1 n1 c1, .slice A2 n2 c2], .agg #[.bool true, .slice B1 k1 d1, .slice B2 k2 d2]] w (BoolPost false w) := by
  go_enter Try.func13, Try.ntmps13
  go_wp2_with fail
  go_ret
  exact ⟨rfl, (by repeat' (first | exact Below.refl _ _ | (refine Below.alloc ?_ ?_ _) | (refine Below.setCell ?_ ?_ _) | (refine Below.drew ?_) | (refine below_next ?_ ?_ (by assumption)) | omega | (simp; done) | (simp; omega)))⟩
end Go.Proofs.Ytdmphpkiclfhhaa.C
