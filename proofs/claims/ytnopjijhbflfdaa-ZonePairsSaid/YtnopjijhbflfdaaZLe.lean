/- zone.Le: slices.EqualFunc of rows, of matrices: walks. -/
import Derived.Test.YtnopjijhbflfdaaZRead
namespace Go.Proofs.Ytnopjijhbflfdaa.C
open Go.RowKit
set_option linter.unusedSimpArgs false
set_option linter.unusedVariables false
def SameBool (b : Bool) (w : World) (e : Ending) (w' : World) : Prop := e = .returned (.bool b) ∧ w = w'
theorem leii_c (x y : Int) (w : World) : Calls Try.prog 56 #[.int .i64 x, .int .i64 y] w (SameBool (decide (x ≤ y)) w) := by
  go_enter Try.func56, Try.ntmps56
  go_wp2
  go_ret
  exact ⟨rfl, rfl⟩
def rowLe (f g : Nat → Int) (n : Nat) : Bool := decide (∀ j, j < n → f j ≤ g j)
set_option maxRecDepth 100000 in
set_option maxHeartbeats 3200000 in
theorem efi_c (A B : Option Addr) (n c1 c2 : Nat) (f g : Nat → Int) (w : World) (h1 : RowC w A n f) (h2 : RowC w B n g) :
    Calls Try.prog 55 #[.slice A n c1, .slice B n c2, .func (.func (56)) #[] #[]] w (SameBool (rowLe f g n) w) := by
  have hmax := h1.1
  have H1 := Lib.hid h1
  have H2 := Lib.hid h2
  clear h1 h2
  go_enter Try.func55, Try.ntmps55
  go_wp2_with fail
  go_loop [17] (fun i => ∃ k : Nat, k ≤ n ∧ i = .int .i64 k ∧ Hid (∀ j, j < k → f j ≤ g j)) (fun i => n - (intOf i).toNat)
  case atStart => exact ⟨0, by omega, rfl, Lib.hid (fun j hj => absurd hj (by omega))⟩
  case round =>
    obtain ⟨k, hk, rfl, HF⟩ := hrel
    by_cases hlt : k < n
    · obtain ⟨a, rfl, ha⟩ := H1.out.2 (by omega)
      obtain ⟨b, rfl, hb⟩ := H2.out.2 (by omega)
      have c1 := ha k hlt
      have c2 := hb k hlt
      have hk0 : (0 : Int) ≤ (k : Int) := by omega
      have hk1 : (k : Int) < (n : Int) := by omega
      obtain ⟨x, hx⟩ : ∃ x, f k = x := ⟨_, rfl⟩
      obtain ⟨y, hy⟩ : ∃ x, g k = x := ⟨_, rfl⟩
      rw [hx] at c1
      rw [hy] at c2
      clear ha hb
      have LC := fun W => leii_c x y W
      by_cases e : x ≤ y
      · have HF2 : Hid (∀ j, j < k + 1 → f j ≤ g j) := Lib.hid (fun j hj => by
          by_cases q : j = k
          · subst q; rw [hx, hy]; exact e
          · exact HF.out j (by omega))
        rw [decide_eq_true e] at LC
        clear e hx hy
        go_wp2_with (go_at_call 56; refine (LC _).mono ?_; rintro e w' ⟨rfl, rfl⟩)
        all_goals exact ⟨⟨k + 1, by omega, by go_num, HF2⟩, by simp [intOf]; omega⟩
      · have e0 : Hid (rowLe f g n = false) := Lib.hid (decide_eq_false (fun h => e (by rw [← hx, ← hy]; exact h k hlt)))
        rw [decide_eq_false e] at LC
        clear e hx hy
        go_wp2_with (go_at_call 56; refine (LC _).mono ?_; rintro e w' ⟨rfl, rfl⟩)
        go_ret
        exact ⟨by rw [e0.out]; rfl, rfl⟩
    · have e0 : Hid (rowLe f g n = true) := Lib.hid (decide_eq_true (fun j hj => HF.out j (by omega)))
      obtain rfl : k = n := by omega
      go_wp2_with fail
      go_ret
      exact ⟨by rw [e0.out]; rfl, rfl⟩
theorem lei_c (A B : Option Addr) (n c1 c2 : Nat) (f g : Nat → Int) (w : World) (h1 : RowC w A n f) (h2 : RowC w B n g) :
    Calls Try.prog 54 #[.slice A n c1, .slice B n c2] w (SameBool (rowLe f g n) w) := by
  have H := Lib.hid (efi_c A B n c1 c2 f g w h1 h2)
  clear h1 h2
  go_enter Try.func54, Try.ntmps54
  go_wp2_with (go_at_call 55; refine (H.out).mono ?_; rintro e w' ⟨rfl, rfl⟩)
  go_ret
  exact ⟨rfl, rfl⟩
def matLe (m m' : Z.M) (n : Nat) : Bool := decide (∀ i, i < n → ∀ j, j < n → m i j ≤ m' i j)
set_option maxRecDepth 100000 in
set_option maxHeartbeats 3200000 in
theorem efo_c (a b : Addr) (n c1 c2 : Nat) (m1 m2 : Z.M) (w : World) (hn2 : n ≤ 1000) (h1 : RM w a n m1) (h2 : RM w b n m2) :
    Calls Try.prog 53 #[.slice (some a) n c1, .slice (some b) n c2, .func (.func (54)) #[] #[]] w (SameBool (matLe m1 m2 n) w) := by
  obtain ⟨R1, C1, p1, p2⟩ := h1
  obtain ⟨R2, C2, q1, q2⟩ := h2
  have H1 := Lib.hid (And.intro p1 p2)
  have H2 := Lib.hid (And.intro q1 q2)
  clear p1 p2 q1 q2
  go_enter Try.func53, Try.ntmps53
  go_wp2_with fail
  go_loop [17] (fun i => ∃ k : Nat, k ≤ n ∧ i = .int .i64 k ∧ Hid (∀ i, i < k → ∀ j, j < n → m1 i j ≤ m2 i j)) (fun i => n - (intOf i).toNat)
  case atStart => exact ⟨0, by omega, rfl, Lib.hid (fun j hj => absurd hj (by omega))⟩
  case round =>
    obtain ⟨k, hk, rfl, HF⟩ := hrel
    by_cases hlt : k < n
    · have c1 := (H1.out.1 k hlt).1
      have c2 := (H2.out.1 k hlt).1
      have LC := lei_c (some (R1 k)) (some (R2 k)) n (C1 k) (C2 k) (m1 k) (m2 k) w ⟨by omega, fun _ => ⟨_, rfl, fun j hj => H1.out.2 k j hlt hj⟩⟩ ⟨by omega, fun _ => ⟨_, rfl, fun j hj => H2.out.2 k j hlt hj⟩⟩
      have hk0 : (0 : Int) ≤ (k : Int) := by omega
      have hk1 : (k : Int) < (n : Int) := by omega
      by_cases e : ∀ j, j < n → m1 k j ≤ m2 k j
      · have HF2 : Hid (∀ i, i < k + 1 → ∀ j, j < n → m1 i j ≤ m2 i j) := Lib.hid (fun i hi j hj => by
          by_cases q : i = k
          · subst q; exact e j hj
          · exact HF.out i (by omega) j hj)
        rw [show rowLe (m1 k) (m2 k) n = true from decide_eq_true e] at LC
        have HL := Lib.hid LC
        clear e LC
        go_wp2_with (go_at_call 54; refine (HL.out).mono ?_; rintro e w' ⟨rfl, rfl⟩)
        all_goals exact ⟨⟨k + 1, by omega, by go_num, HF2⟩, by simp [intOf]; omega⟩
      · have e0 : Hid (matLe m1 m2 n = false) := Lib.hid (decide_eq_false (fun h => e (fun j hj => h k hlt j hj)))
        rw [show rowLe (m1 k) (m2 k) n = false from decide_eq_false e] at LC
        have HL := Lib.hid LC
        clear e LC
        go_wp2_with (go_at_call 54; refine (HL.out).mono ?_; rintro e w' ⟨rfl, rfl⟩)
        go_ret
        exact ⟨by rw [e0.out]; rfl, rfl⟩
    · have e0 : Hid (matLe m1 m2 n = true) := Lib.hid (decide_eq_true (fun i hi j hj => HF.out i (by omega) j hj))
      obtain rfl : k = n := by omega
      go_wp2_with fail
      go_ret
      exact ⟨by rw [e0.out]; rfl, rfl⟩
set_option maxHeartbeats 1600000 in
theorem zle_c (a b : Addr) (n c1 c2 : Nat) (m1 m2 : Z.M) (w : World) (hn2 : n ≤ 1000) (h1 : RM w a n m1) (h2 : RM w b n m2) :
    Calls Try.prog 31 #[.agg #[.slice (some a) n c1], .agg #[.slice (some b) n c2]] w (BoolPost (matLe m1 m2 n) w) := by
  have H1 := Lib.hid h1
  have H2 := Lib.hid h2
  clear h1 h2
  go_enter Try.func31, Try.ntmps31
  go_upto_region 1 with fail
  refine at_world (fun W => Hid (Below w.heap.size w W) ∧ (∀ o, W.cell? ⟨w.heap.size, o, none⟩ = [Value.slice (some a) n c1][o]?) ∧ (∀ o, W.cell? ⟨w.heap.size + 1, o, none⟩ = [Value.slice (some b) n c2][o]?)) ⟨Lib.hid (by repeat' (first | exact Below.refl _ _ | (refine Below.alloc ?_ ?_ _) | (refine Below.setCell ?_ ?_ _) | (refine Below.drew ?_) | (refine below_next ?_ ?_ (by assumption)) | omega | (simp; done) | (simp; omega))), (by intro o; simp [go_sem]), (by intro o; simp [go_sem])⟩ ?_
  intro W ⟨HB, k0, k1⟩
  have HE := Lib.hid (efo_c a b n c1 c2 m1 m2 W hn2 (H1.out.below HB.out) (H2.out.below HB.out))
  go_wp2_with (go_at_call 53; refine (HE.out).mono ?_; rintro e w' ⟨rfl, rfl⟩)
  go_ret
  exact ⟨rfl, HB.out⟩
end Go.Proofs.Ytnopjijhbflfdaa.C
