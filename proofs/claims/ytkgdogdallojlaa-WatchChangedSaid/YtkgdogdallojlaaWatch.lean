/- slices.Index, Contains, Equal of numbers; watch.Changed; l9.awake: walks. -/
import Derived.Test.YtkgdogdallojlaaMem18
namespace Go.Proofs.Ytkgdogdallojlaa.C
open Go.RowKit
set_option linter.unusedSimpArgs false
set_option linter.unusedVariables false
def hasI (f : Nat → Int) (n : Nat) (v : Int) : Bool := decide (∃ j, j < n ∧ f j = v)
theorem hasI_spec (f : Nat → Int) (n : Nat) (v : Int) : hasI f n v = true ↔ ∃ j, j < n ∧ f j = v := by unfold hasI; simp
def eqI (f g : Nat → Int) (n m : Nat) : Bool := decide (n = m ∧ ∀ j, j < n → f j = g j)
def IdxPost (f : Nat → Int) (n : Nat) (v : Int) (w : World) (e : Ending) (w' : World) : Prop := ∃ i : Int, e = .returned (.int .i64 i) ∧ decide (0 ≤ i) = hasI f n v ∧ w = w'
set_option maxHeartbeats 1600000 in
theorem index_c (A : Option Addr) (n cap : Nat) (f : Nat → Int) (v : Int) (w : World) (hr : RowC w A n f) :
    Calls Try.prog 31 #[.slice A n cap, .int .i64 v] w (IdxPost f n v w) := by
  have hmax := hr.1
  have HR := Lib.hid hr
  clear hr
  go_enter Try.func31, Try.ntmps31
  go_wp2_with fail
  go_loop [8] (fun i => ∃ k : Nat, k ≤ n ∧ i = .int .i64 k ∧ Hid (∀ j, j < k → f j ≠ v)) (fun i => n - (intOf i).toNat)
  case atStart => exact ⟨0, by omega, rfl, Lib.hid (fun j hj => absurd hj (by omega))⟩
  case round =>
    obtain ⟨k, hk, rfl, HF⟩ := hrel
    by_cases hlt : k < n
    · obtain ⟨a, rfl, ha⟩ := HR.out.2 (by omega)
      have c0 := ha k hlt
      have hk0 : (0 : Int) ≤ (k : Int) := by omega
      have hk1 : (k : Int) < (n : Int) := by omega
      obtain ⟨y, hy⟩ : ∃ y, f k = y := ⟨_, rfl⟩
      rw [hy] at c0
      clear ha
      by_cases e : v = y
      · have e0 : Hid (decide (0 ≤ (k : Int)) = hasI f n v) := Lib.hid (by rw [decide_eq_true hk0]; exact ((hasI_spec f n v).2 ⟨k, hlt, by rw [hy, e]⟩).symm)
        clear hy
        subst e
        go_wp2_with fail
        go_ret
        exact ⟨k, rfl, e0.out, rfl⟩
      · have HF2 : Hid (∀ j, j < k + 1 → f j ≠ v) := Lib.hid (fun j hj => by
          by_cases q : j = k
          · subst q; rw [hy]; exact fun h => e h.symm
          · exact HF.out j (by omega))
        have ge : (v == y) = false := by rw [beq_eq_false_iff_ne]; exact e
        clear hy e
        go_wp2_with fail
        all_goals exact ⟨⟨k + 1, by omega, by go_num, HF2⟩, by simp [intOf]; omega⟩
    · have e0 : Hid (decide (0 ≤ (-1 : Int)) = hasI f n v) := Lib.hid (by
        have h1 : hasI f n v = false := by
          rw [← Bool.not_eq_true, hasI_spec]
          rintro ⟨j, hj, e⟩
          exact HF.out j (by omega) e
        rw [h1]; rfl)
      obtain rfl : k = n := by omega
      go_wp2_with fail
      go_ret
      exact ⟨-1, rfl, e0.out, rfl⟩
theorem contains_c (A : Option Addr) (n cap : Nat) (f : Nat → Int) (v : Int) (w : World) (hr : RowC w A n f) :
    Calls Try.prog 20 #[.slice A n cap, .int .i64 v] w fun e w' => e = .returned (.bool (hasI f n v)) ∧ w = w' := by
  have H := Lib.hid (index_c A n cap f v w hr)
  clear hr
  go_enter Try.func20, Try.ntmps20
  go_wp2_with (go_at_call 31; refine (H.out).mono ?_; rintro e w' ⟨i, rfl, hi, rfl⟩)
  go_ret
  exact ⟨by rw [← hi]; rfl, rfl⟩
set_option maxRecDepth 100000 in
set_option maxHeartbeats 1600000 in
theorem equal_c (A B : Option Addr) (n m c1 c2 : Nat) (f g : Nat → Int) (w : World) (h1 : RowC w A n f) (h2 : RowC w B m g) :
    Calls Try.prog 21 #[.slice A n c1, .slice B m c2] w fun e w' => e = .returned (.bool (eqI f g n m)) ∧ Below w.heap.size w w' := by
  have hmax := h1.1
  have hmax2 := h2.1
  have H1 := Lib.hid h1
  have H2 := Lib.hid h2
  clear h1 h2
  by_cases hnm : n = m
  · subst hnm
    go_enter Try.func21, Try.ntmps21
    go_wp2_with fail
    go_loopw [13] (fun v wr => ∃ k : Nat, k ≤ n ∧ v = .int .i64 k ∧ Hid (∀ j, j < k → f j = g j) ∧ Below w.heap.size w wr) (fun v _ => n - (intOf v).toNat)
    case atStart => exact ⟨0, by omega, rfl, Lib.hid (fun j hj => absurd hj (by omega)), Below.refl _ _⟩
    case round =>
      obtain ⟨k, hk, rfl, HF, hb⟩ := hrel
      have HB := Lib.hid hb
      clear hb
      by_cases hlt : k < n
      · obtain ⟨a, rfl, ha⟩ := (H1.out.below HB.out).2 (by omega)
        obtain ⟨b, rfl, hb⟩ := (H2.out.below HB.out).2 (by omega)
        have c0 := ha k hlt
        have d0 := hb k hlt
        have hk0 : (0 : Int) ≤ (k : Int) := by omega
        have hk1 : (k : Int) < (n : Int) := by omega
        obtain ⟨x, hx⟩ : ∃ x, f k = x := ⟨_, rfl⟩
        obtain ⟨y, hy⟩ : ∃ y, g k = y := ⟨_, rfl⟩
        rw [hx] at c0
        rw [hy] at d0
        obtain ⟨wo, rfl⟩ : ∃ wo : World, wo = wr := ⟨_, rfl⟩
        have k0 := fun (x' : WIn (Below wo.heap.size wo)) => cell_later x'.h c0
        have k1 := fun (x' : WIn (Below wo.heap.size wo)) => cell_later x'.h d0
        clear c0 d0 ha hb
        by_cases he : x = y
        · have HF2 : Hid (∀ j, j < k + 1 → f j = g j) := Lib.hid (fun j hj => by
            by_cases q' : j = k
            · subst q'; rw [hx, hy, he]
            · exact HF.out j (by omega))
          clear hx hy
          subst he
          go_upto_region 6 with fail
          refine region_in (Below wo.heap.size wo) (by kernel_rfl) (by kernel_rfl) (Below.refl _ _).drew (fun inst => ?_)
          iterate 9 (go_big_quiet_step (fail))
          refine wpQuiet_nil ?_
          intro wd hbw
          have HBw : Hid (Below w.heap.size w wd) := Lib.hid (below_next HB.out HB.out.size hbw)
          clear k0 k1 hbw
          go_wp2_with fail
          all_goals exact ⟨⟨k + 1, by omega, by go_num, HF2, HBw.out⟩, by simp [intOf]; omega⟩
        · have e0 : Hid (eqI f g n n = false) := Lib.hid (decide_eq_false (fun h => he (by have := h.2 k hlt; rw [hx, hy] at this; exact this)))
          have ge : (x != y) = true := by rw [bne_iff_ne]; exact he
          clear hx hy
          go_upto_region 6 with fail
          refine region_in (Below wo.heap.size wo) (by kernel_rfl) (by kernel_rfl) (Below.refl _ _).drew (fun inst => ?_)
          iterate 9 (go_big_quiet_step (fail))
          refine wpQuiet_nil ?_
          intro wd hbw
          have HBw : Hid (Below w.heap.size w wd) := Lib.hid (below_next HB.out HB.out.size hbw)
          clear k0 k1 hbw
          go_wp2_with fail
          go_ret
          exact ⟨by rw [e0.out]; rfl, HBw.out⟩
      · have e0 : Hid (eqI f g n n = true) := Lib.hid (decide_eq_true ⟨rfl, fun j hj => HF.out j (by omega)⟩)
        obtain rfl : k = n := by omega
        go_wp2_with fail
        go_ret
        exact ⟨by rw [e0.out]; rfl, HB.out⟩
  · have e0 : Hid (eqI f g n m = false) := Lib.hid (decide_eq_false (fun h => hnm h.1))
    have g : ((n : Int) = (m : Int)) = False := by simp; omega
    have g' : ((n : Int) != (m : Int)) = true := by rw [bne_iff_ne]; omega
    go_enter Try.func21, Try.ntmps21
    go_wp2_with fail
    go_ret
    exact ⟨by rw [e0.out]; rfl, Below.refl _ _⟩
/-- What Block says of an id, in every world further on. -/
def BlkPost (t : Int) (l : Nat) (f : Nat → Int) (b : Bool) (W : World) (e : Ending) (w' : World) : Prop := ∃ A c, e = .returned (.tuple #[.agg #[.int .i64 t, .slice A l c], .bool b]) ∧ RowC w' A l f ∧ Below W.heap.size W w'
/-- The first one that differs, and may not. -/
def chgM (ids : Nat → Int) (q : Nat) (may : Nat → Int) (r : Nat) (D : Int → Bool) : Int := match (List.range q).find? (fun i => !hasI may r (ids i) && D (ids i)) with | some i => ids i | none => -1
theorem chgM_none {ids : Nat → Int} {q : Nat} {may : Nat → Int} {r : Nat} {D : Int → Bool} (h : ∀ j, j < q → (!hasI may r (ids j) && D (ids j)) = false) : chgM ids q may r D = -1 := by
  unfold chgM
  have : (List.range q).find? (fun i => !hasI may r (ids i) && D (ids i)) = none := by
    rw [List.find?_eq_none]
    intro j hj
    rw [h j (List.mem_range.1 hj)]
    simp
  rw [this]
theorem find_range (P : Nat → Bool) {q k : Nat} (hk : k < q) (hP : P k = true) (h : ∀ j, j < k → P j = false) : (List.range q).find? P = some k := by
  rw [List.find?_range_eq_some]
  refine ⟨hP, List.mem_range.2 hk, fun j hj => ?_⟩
  rw [h j hj]; rfl
theorem chgM_at {ids : Nat → Int} {q k : Nat} {may : Nat → Int} {r : Nat} {D : Int → Bool} (hk : k < q) (h1 : hasI may r (ids k) = false) (h2 : D (ids k) = true) (h : ∀ j, j < k → (!hasI may r (ids j) && D (ids j)) = false) : chgM ids q may r D = ids k := by
  unfold chgM
  rw [find_range _ hk (by rw [h1, h2]; rfl) h]
end Go.Proofs.Ytkgdogdallojlaa.C
