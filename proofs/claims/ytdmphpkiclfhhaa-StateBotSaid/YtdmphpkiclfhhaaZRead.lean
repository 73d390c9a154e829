/- What is only read of rows and matrices: r1.Ints, r14.SameZone, r14.square, r14.Square: walks. -/
import Derived.Test.YtdmphpkiclfhhaaZClone
namespace Go.Proofs.Ytdmphpkiclfhhaa.C
open Go.RowKit
set_option linter.unusedSimpArgs false
set_option linter.unusedVariables false
/-- A row of numbers that is read. -/
def RowC (w : World) (A : Option Addr) (n : Nat) (f : Nat → Int) : Prop := n ≤ 9223372036854775807 ∧ (0 < n → ∃ a, A = some a ∧ ∀ j, j < n → w.cell? (a.add j) = some (.int .i64 (f j)))
theorem RowC.below {w w' : World} {A : Option Addr} {n : Nat} {f : Nat → Int} (h : RowC w A n f) (hb : Below w.heap.size w w') : RowC w' A n f :=
  ⟨h.1, fun h0 => by obtain ⟨a, e, hc⟩ := h.2 h0; exact ⟨a, e, fun j hj => cell_later hb (hc j hj)⟩⟩
def BoolPost (b : Bool) (w : World) (e : Ending) (w' : World) : Prop := e = .returned (.bool b) ∧ Below w.heap.size w w'
set_option maxRecDepth 100000 in
set_option maxHeartbeats 1600000 in
theorem ints_c (A B : Option Addr) (n c1 c2 : Nat) (f g : Nat → Int) (w : World) (h1 : RowC w A n f) (h2 : RowC w B n g) :
    Calls Try.prog 90 #[.slice A n c1, .slice B n c2] w (BoolPost (decide (∀ j, j < n → f j = g j)) w) := by
  have hmax := h1.1
  have H1 := Lib.hid h1
  have H2 := Lib.hid h2
  clear h1 h2
  go_enter Try.func90, Try.ntmps90
  go_wp2_with fail
  go_loopw [5] (fun i wr => ∃ k : Nat, k ≤ n ∧ i = .int .i64 k ∧ Hid (∀ j, j < k → f j = g j) ∧ Below w.heap.size w wr) (fun i _ => n - (intOf i).toNat)
  case atStart => exact ⟨0, by omega, rfl, Lib.hid (fun j hj => absurd hj (by omega)), Below.refl _ _⟩
  case round =>
    obtain ⟨k, hk, rfl, HF, hb⟩ := hrel
    have HB := Lib.hid hb
    clear hb
    by_cases hlt : k < n
    · obtain ⟨a, rfl, ha⟩ := (H1.out.below HB.out).2 (by omega)
      obtain ⟨b, rfl, hb⟩ := (H2.out.below HB.out).2 (by omega)
      have d1 := fun (x : WIn (Below wr.heap.size wr)) => cell_later x.h (ha k hlt)
      have d2 := fun (x : WIn (Below wr.heap.size wr)) => cell_later x.h (hb k hlt)
      have hk0 : (0 : Int) ≤ (k : Int) := by omega
      have hk1 : (k : Int) < (n : Int) := by omega
      obtain ⟨wo, rfl⟩ : ∃ wo : World, wo = wr := ⟨_, rfl⟩
      obtain ⟨x, hx⟩ : ∃ x, f k = x := ⟨_, rfl⟩
      obtain ⟨y, hy⟩ : ∃ x, g k = x := ⟨_, rfl⟩
      rw [hx] at d1
      rw [hy] at d2
      clear ha hb
      by_cases e : x = y
      · have g1 : (x != y) = false := by simp [e]
        have HF2 : Hid (∀ j, j < k + 1 → f j = g j) := Lib.hid (fun j hj => by
          by_cases q : j = k
          · subst q; rw [hx, hy, e]
          · exact HF.out j (by omega))
        clear e hx hy
        go_upto_region 6 with fail
        refine region_in (Below wo.heap.size wo) (by kernel_rfl) (by kernel_rfl) (Below.refl _ _).drew (fun inst => ?_)
        iterate 9 (go_big_quiet_step (fail))
        refine wpQuiet_nil ?_
        intro wd hbd
        clear d1 d2
        go_wp2_with fail
        all_goals exact ⟨⟨k + 1, by omega, by go_num, HF2, below_next HB.out HB.out.size hbd⟩, by simp [intOf]; omega⟩
      · have g1 : (x != y) = true := by simp [e]
        have e0 : Hid (decide (∀ j, j < n → f j = g j) = false) := Lib.hid (decide_eq_false (fun h => e (by rw [← hx, ← hy]; exact h k hlt)))
        clear e hx hy
        go_upto_region 6 with fail
        refine region_in (Below wo.heap.size wo) (by kernel_rfl) (by kernel_rfl) (Below.refl _ _).drew (fun inst => ?_)
        iterate 9 (go_big_quiet_step (fail))
        refine wpQuiet_nil ?_
        intro wd hbd
        clear d1 d2
        go_wp2_with fail
        go_ret
        exact ⟨by rw [e0.out]; rfl, below_next HB.out HB.out.size hbd⟩
    · have e0 : Hid (decide (∀ j, j < n → f j = g j) = true) := Lib.hid (decide_eq_true (fun j hj => HF.out j (by omega)))
      have hkn : k = n := by omega
      subst hkn
      go_wp2_with fail
      go_ret
      exact ⟨by rw [e0.out]; rfl, HB.out⟩
set_option maxRecDepth 100000 in
set_option maxHeartbeats 1600000 in
theorem sameZone_c (a b : Addr) (n c1 c2 : Nat) (m1 m2 : Z.M) (w : World) (hn : n ≤ 1000) (h1 : RM w a n m1) (h2 : RM w b n m2) :
    Calls Try.prog 49 #[.agg #[.slice (some a) n c1], .agg #[.slice (some b) n c2]] w (BoolPost (Z.alikeB m1 m2 n) w) := by
  have H1 := Lib.hid h1
  have H2 := Lib.hid h2
  clear h1 h2
  go_enter Try.func49, Try.ntmps49
  go_upto_region 1 with fail
  refine at_world (fun W => Hid (Below w.heap.size w W ∧ w.heap.size + 1 < W.heap.size) ∧ (∀ o, W.cell? ⟨w.heap.size, o, none⟩ = [Value.slice (some a) n c1][o]?) ∧ (∀ o, W.cell? ⟨w.heap.size + 1, o, none⟩ = [Value.slice (some b) n c2][o]?)) ⟨Lib.hid ⟨(by repeat' (first | exact Below.refl _ _ | (refine Below.alloc ?_ ?_ _) | (refine Below.setCell ?_ ?_ _) | (refine Below.drew ?_) | (refine below_next ?_ ?_ (by assumption)) | omega | (simp; done) | (simp; omega))), by simp⟩, (by intro o; simp [go_sem]), (by intro o; simp [go_sem])⟩ ?_
  intro W0 ⟨HB0, k0, k1⟩
  go_wp2_with fail
  have K0 := Lib.hid k0
  have K1 := Lib.hid k1
  clear k0 k1
  go_loopw [5] (fun i wr => ∃ k : Nat, k ≤ n ∧ i = .int .i64 k ∧ Hid (∀ i j, i < k → j < n → m1 i j = m2 i j) ∧ Below W0.heap.size W0 wr) (fun i _ => n - (intOf i).toNat)
  case atStart => exact ⟨0, by omega, rfl, Lib.hid (fun i j hi => absurd hi (by omega)), Below.refl _ _⟩
  case round =>
    obtain ⟨k, hk, rfl, HF, hb⟩ := hrel
    have HB := Lib.hid hb
    have HW := Lib.hid (HB0.out.1.trans (hb.mono HB0.out.1.size))
    have k0 := fun o => (hb.cell (p := ⟨w.heap.size, o, none⟩) (by have := HB0.out.2; show w.heap.size < _; omega)).trans (K0.out o)
    have k1 := fun o => (hb.cell (p := ⟨w.heap.size + 1, o, none⟩) (by have := HB0.out.2; show w.heap.size + 1 < _; omega)).trans (K1.out o)
    have hsz : w.heap.size + 1 < wr.heap.size := by have := HB0.out.2; have := hb.size; omega
    clear hb
    by_cases hlt : k < n
    · obtain ⟨Ra, Ca, ha1, ha2⟩ := H1.out.below HW.out
      obtain ⟨Rb, Cb, hb1, hb2⟩ := H2.out.below HW.out
      have d1 := fun (x : WIn (Below wr.heap.size wr)) => cell_later x.h (ha1 k hlt).1
      have d2 := fun (x : WIn (Below wr.heap.size wr)) => cell_later x.h (hb1 k hlt).1
      have d3 := fun (x : WIn (Below wr.heap.size wr)) (o : Nat) => (x.h.cell (p := ⟨w.heap.size, o, none⟩) (by show w.heap.size < _; omega)).trans (k0 o)
      have d4 := fun (x : WIn (Below wr.heap.size wr)) (o : Nat) => (x.h.cell (p := ⟨w.heap.size + 1, o, none⟩) (by show w.heap.size + 1 < _; omega)).trans (k1 o)
      have RA : Hid (RowC wr (some (Ra k)) n (m1 k)) := Lib.hid ⟨by omega, fun _ => ⟨_, rfl, fun j hj => ha2 k j hlt hj⟩⟩
      have RB : Hid (RowC wr (some (Rb k)) n (m2 k)) := Lib.hid ⟨by omega, fun _ => ⟨_, rfl, fun j hj => hb2 k j hlt hj⟩⟩
      have IC := fun (x : WIn (Below wr.heap.size wr)) => ints_c (some (Ra k)) (some (Rb k)) n (Ca k) (Cb k) (m1 k) (m2 k) x.w (RA.out.below x.h) (RB.out.below x.h)
      have hk0 : (0 : Int) ≤ (k : Int) := by omega
      have hk1 : (k : Int) < (n : Int) := by omega
      clear ha1 ha2 hb1 hb2
      obtain ⟨wo, rfl⟩ : ∃ wo : World, wo = wr := ⟨_, rfl⟩
      by_cases e : ∀ j, j < n → m1 k j = m2 k j
      · have HF2 : Hid (∀ i j, i < k + 1 → j < n → m1 i j = m2 i j) := Lib.hid (fun i j hi hj => by
          by_cases q : i = k
          · subst q; exact e j hj
          · exact HF.out i j (by omega) hj)
        have IC2 : ∀ (x : WIn (Below wo.heap.size wo)), Calls Try.prog 90 #[.slice (some (Ra k)) n (Ca k), .slice (some (Rb k)) n (Cb k)] x.w fun e w' => e = .returned (.bool true) ∧ Below x.w.heap.size x.w w' := fun x => by have := IC x; rw [decide_eq_true e] at this; exact this
        clear e IC
        go_upto_region 6 with fail
        refine region_in (Below wo.heap.size wo) (by kernel_rfl) (by kernel_rfl) (Below.refl _ _).drew (fun inst => ?_)
        iterate 12 (go_big_quiet_step ((go_at_call 90; exact call_grow (Nat.le_refl _) (IC2 _))))
        refine wpQuiet_nil ?_
        intro wd hbd
        clear d1 d2 d3 d4 IC2 k0 k1
        go_wp2_with fail
        all_goals exact ⟨⟨k + 1, by omega, by go_num, HF2, below_next HB.out HB.out.size hbd⟩, by simp [intOf]; omega⟩
      · have IC2 : ∀ (x : WIn (Below wo.heap.size wo)), Calls Try.prog 90 #[.slice (some (Ra k)) n (Ca k), .slice (some (Rb k)) n (Cb k)] x.w fun e w' => e = .returned (.bool false) ∧ Below x.w.heap.size x.w w' := fun x => by have := IC x; rw [decide_eq_false e] at this; exact this
        have e0 : Hid (Z.alikeB m1 m2 n = false) := Lib.hid (Z.alikeB_false (fun h => e (fun j hj => h k j hlt hj)))
        clear e IC
        go_upto_region 6 with fail
        refine region_in (Below wo.heap.size wo) (by kernel_rfl) (by kernel_rfl) (Below.refl _ _).drew (fun inst => ?_)
        iterate 12 (go_big_quiet_step ((go_at_call 90; exact call_grow (Nat.le_refl _) (IC2 _))))
        refine wpQuiet_nil ?_
        intro wd hbd
        clear d1 d2 d3 d4 IC2 k0 k1
        go_wp2_with fail
        go_ret
        exact ⟨by rw [e0.out]; rfl, below_next HW.out HW.out.size hbd⟩
    · have e0 : Hid (Z.alikeB m1 m2 n = true) := Lib.hid (Z.alikeB_true (fun i j hi hj => HF.out i j (by omega) hj))
      have hkn : k = n := by omega
      subst hkn
      go_wp2_with fail
      go_ret
      exact ⟨by rw [e0.out]; rfl, HW.out⟩
end Go.Proofs.Ytdmphpkiclfhhaa.C
