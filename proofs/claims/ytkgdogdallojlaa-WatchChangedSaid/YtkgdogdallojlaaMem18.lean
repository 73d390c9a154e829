/- r1.Ints, r5.SameBlock: walks. -/
import Derived.Test.YtkgdogdallojlaaMem17
namespace Go.Proofs.Ytkgdogdallojlaa.C
open Go.RowKit
set_option linter.unusedSimpArgs false
set_option linter.unusedVariables false
def RowC (w : World) (A : Option Addr) (n : Nat) (f : Nat → Int) : Prop := n ≤ 9223372036854775807 ∧ (0 < n → ∃ a, A = some a ∧ ∀ j, j < n → w.cell? (a.add j) = some (.int .i64 (f j)))
theorem RowC.below {w w' : World} {A : Option Addr} {n : Nat} {f : Nat → Int} (h : RowC w A n f) (hb : Below w.heap.size w w') : RowC w' A n f :=
  ⟨h.1, fun h0 => by obtain ⟨a, e, hc⟩ := h.2 h0; exact ⟨a, e, fun j hj => cell_later hb (hc j hj)⟩⟩
def BoolPost (b : Bool) (w : World) (e : Ending) (w' : World) : Prop := e = .returned (.bool b) ∧ Below w.heap.size w w'
set_option maxRecDepth 100000 in
set_option maxHeartbeats 1600000 in
theorem ints_c (A B : Option Addr) (n c1 c2 : Nat) (f g : Nat → Int) (w : World) (h1 : RowC w A n f) (h2 : RowC w B n g) :
    Calls Try.prog 32 #[.slice A n c1, .slice B n c2] w (BoolPost (decide (∀ j, j < n → f j = g j)) w) := by
  have hmax := h1.1
  have H1 := Lib.hid h1
  have H2 := Lib.hid h2
  clear h1 h2
  go_enter Try.func32, Try.ntmps32
  go_wp2_with fail
  go_loopw [5] (fun i wr => ∃ k : Nat, k ≤ n ∧ i = .int .i64 k ∧ Hid (∀ j, j < k → f j = g j) ∧ Below w.heap.size w wr) (fun i _ => n - (intOf i).toNat)
  case atStart => exact ⟨0, by omega, rfl, Lib.hid (fun j hj => absurd hj (by omega)), Below.refl _ _⟩
  case round =>
    obtain ⟨k, hk, rfl, HF, hb⟩ := hrel
    have HB := Lib.hid hb
    clear hb
    by_cases hlt : k < n
    · obtain ⟨a, rfl, ha⟩ := (H1.out.below HB.out).2 (by omega)
      obtain ⟨b, rfl, hb⟩ := (H2.out.below HB.out).2 (by omega)
      have d1 := fun (x : WIn (Below wr.heap.size wr)) => cell_later x.h (ha k hlt)
      have d2 := fun (x : WIn (Below wr.heap.size wr)) => cell_later x.h (hb k hlt)
      have hk0 : (0 : Int) ≤ (k : Int) := by omega
      have hk1 : (k : Int) < (n : Int) := by omega
      obtain ⟨wo, rfl⟩ : ∃ wo : World, wo = wr := ⟨_, rfl⟩
      obtain ⟨x, hx⟩ : ∃ x, f k = x := ⟨_, rfl⟩
      obtain ⟨y, hy⟩ : ∃ x, g k = x := ⟨_, rfl⟩
      rw [hx] at d1
      rw [hy] at d2
      clear ha hb
      by_cases e : x = y
      · have g1 : (x != y) = false := by simp [e]
        have HF2 : Hid (∀ j, j < k + 1 → f j = g j) := Lib.hid (fun j hj => by
          by_cases q : j = k
          · subst q; rw [hx, hy, e]
          · exact HF.out j (by omega))
        clear e hx hy
        go_upto_region 6 with fail
        refine region_in (Below wo.heap.size wo) (by kernel_rfl) (by kernel_rfl) (Below.refl _ _).drew (fun inst => ?_)
        iterate 9 (go_big_quiet_step (fail))
        refine wpQuiet_nil ?_
        intro wd hbd
        clear d1 d2
        go_wp2_with fail
        all_goals exact ⟨⟨k + 1, by omega, by go_num, HF2, below_next HB.out HB.out.size hbd⟩, by simp [intOf]; omega⟩
      · have g1 : (x != y) = true := by simp [e]
        have e0 : Hid (decide (∀ j, j < n → f j = g j) = false) := Lib.hid (decide_eq_false (fun h => e (by rw [← hx, ← hy]; exact h k hlt)))
        clear e hx hy
        go_upto_region 6 with fail
        refine region_in (Below wo.heap.size wo) (by kernel_rfl) (by kernel_rfl) (Below.refl _ _).drew (fun inst => ?_)
        iterate 9 (go_big_quiet_step (fail))
        refine wpQuiet_nil ?_
        intro wd hbd
        clear d1 d2
        go_wp2_with fail
        go_ret
        exact ⟨by rw [e0.out]; rfl, below_next HB.out HB.out.size hbd⟩
    · have e0 : Hid (decide (∀ j, j < n → f j = g j) = true) := Lib.hid (decide_eq_true (fun j hj => HF.out j (by omega)))
      have hkn : k = n := by omega
      subst hkn
      go_wp2_with fail
      go_ret
      exact ⟨by rw [e0.out]; rfl, HB.out⟩
theorem sameBlock_c (t : Int) (A B : Option Addr) (n c1 c2 : Nat) (f : Nat → Int) (w : World) (h1 : RowC w A n f) (h2 : RowC w B n f) :
    Calls Try.prog 23 #[.agg #[.int .i64 t, .slice A n c1], .agg #[.int .i64 t, .slice B n c2]] w (BoolPost true w) := by
  have IC : Hid (∀ W : World, Below w.heap.size w W → Calls Try.prog 32 #[.slice A n c1, .slice B n c2] W fun e w' => e = .returned (.bool true) ∧ Below W.heap.size W w') := Lib.hid (fun W hW => by
    have := ints_c A B n c1 c2 f f W (h1.below hW) (h2.below hW)
    rw [decide_eq_true (fun _ _ => rfl)] at this
    exact this)
  clear h1 h2
  go_enter Try.func23, Try.ntmps23
  go_wp2_with (go_at_call 32; refine (IC.out _ (by repeat' (first | exact Below.refl _ _ | (refine Below.alloc ?_ ?_ _) | (refine Below.setCell ?_ ?_ _) | (refine Below.drew ?_) | (refine below_next ?_ ?_ (by assumption)) | omega | (simp; done) | (simp; omega)))).mono ?_; rintro e w' ⟨rfl, hb⟩)
  go_ret
  exact ⟨rfl, (by repeat' (first | exact Below.refl _ _ | (refine Below.alloc ?_ ?_ _) | (refine Below.setCell ?_ ?_ _) | (refine Below.drew ?_) | (refine below_next ?_ ?_ (by assumption)) | omega | (simp; done) | (simp; omega)))⟩
end Go.Proofs.Ytkgdogdallojlaa.C
