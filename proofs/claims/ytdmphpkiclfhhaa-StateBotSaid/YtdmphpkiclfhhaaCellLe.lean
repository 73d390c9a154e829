/- cells.Le, r14.LeCells, r14.SameItvs: walks. -/
import Derived.Test.YtdmphpkiclfhhaaCell
namespace Go.Proofs.Ytdmphpkiclfhhaa.C
open Go.RowKit
set_option linter.unusedSimpArgs false
set_option linter.unusedVariables false
attribute [local go_sem] fieldItv0 fieldItv1
set_option maxRecDepth 100000 in
set_option maxHeartbeats 3200000 in
theorem eqf_c (A B : Option Addr) (n m c1 c2 : Nat) (r s : Nat → Int × Int) (w : World) (h1 : CR w A n r) (h2 : CR w B m s) :
    Calls Try.prog 103 #[.slice A n c1, .slice B m c2, .func (.func (104)) #[] #[]] w fun e w' => e = .returned (.bool (leC r s n m)) ∧ Below w.heap.size w w' := by
  have hmax := h1.1
  have hmax2 := h2.1
  have H1 := Lib.hid h1
  have H2 := Lib.hid h2
  clear h1 h2
  by_cases hnm : n = m
  · subst hnm
    go_enter Try.func103, Try.ntmps103
    go_wp2_with fail
    go_loopw [17] (fun v wr => ∃ k : Nat, k ≤ n ∧ v = .int .i64 k ∧ Hid (∀ j, j < k → leI (r j).1 (r j).2 (s j).1 (s j).2 = true) ∧ Below w.heap.size w wr) (fun v _ => n - (intOf v).toNat)
    case atStart => exact ⟨0, by omega, rfl, Lib.hid (fun j hj => absurd hj (by omega)), Below.refl _ _⟩
    case round =>
      obtain ⟨k, hk, rfl, HF, hb⟩ := hrel
      have HB := Lib.hid hb
      clear hb
      by_cases hlt : k < n
      · obtain ⟨ad, rfl, had, c0, c1⟩ := (H1.out.below HB.out).at hlt
        obtain ⟨bd, rfl, hbd, d0, d1⟩ := (H2.out.below HB.out).at hlt
        have hk0 : (0 : Int) ≤ (k : Int) := by omega
        have hk1 : (k : Int) < (n : Int) := by omega
        obtain ⟨p, hp⟩ : ∃ p, r k = p := ⟨_, rfl⟩
        obtain ⟨q, hq⟩ : ∃ q, s k = q := ⟨_, rfl⟩
        rw [hp] at c0 c1
        rw [hq] at d0 d1
        obtain ⟨wo, rfl⟩ : ∃ wo : World, wo = wr := ⟨_, rfl⟩
        have ba := fun o : Obj => (Below.refl wo.heap.size wo).alloc (Nat.le_refl _) o
        have d0' := fun o : Obj => cell_later (ba o) d0
        have d1' := fun o : Obj => cell_later (ba o) d1
        clear d0 d1 had hbd ba
        have LC := fun W => itvLe_c p.1 p.2 q.1 q.2 W
        obtain ⟨b, hb⟩ : ∃ b, leI p.1 p.2 q.1 q.2 = b := ⟨_, rfl⟩
        simp only [hb] at LC
        have HBA : ∀ w3, Below (wo.heap.size + 1 + 1) ((wo.alloc (.cells #[.int .i64 p.1, .int .i64 p.2] 39)).alloc (.cells #[.int .i64 q.1, .int .i64 q.2] 39)) w3 → Below w.heap.size w w3 := fun w3 h3 => by
          refine below_next (((HB.out).alloc HB.out.size _).alloc (by have := HB.out.size; simp; omega) _) ?_ (w1 := (wo.alloc (.cells #[.int .i64 p.1, .int .i64 p.2] 39)).alloc (.cells #[.int .i64 q.1, .int .i64 q.2] 39)) (by simpa using h3)
          have := HB.out.size; simp; omega
        have HBB := Lib.hid HBA
        clear HBA
        cases b
        · have e0 : Hid (leC r s n n = false) := Lib.hid (decide_eq_false (fun h => by have := h.2 k hlt; rw [hp, hq, hb] at this; cases this))
          clear hp hq hb
          go_wp2_with (go_at_call 104; refine (LC _).mono ?_; rintro e w3 ⟨rfl, hb3⟩)
          go_ret
          exact ⟨by rw [e0.out]; rfl, HBB.out _ (by simpa using hb3)⟩
        · have HF2 : Hid (∀ j, j < k + 1 → leI (r j).1 (r j).2 (s j).1 (s j).2 = true) := Lib.hid (fun j hj => by
            by_cases q' : j = k
            · subst q'; rw [hp, hq]; exact hb
            · exact HF.out j (by omega))
          clear hp hq hb
          go_wp2_with (go_at_call 104; refine (LC _).mono ?_; rintro e w3 ⟨rfl, hb3⟩)
          all_goals exact ⟨⟨k + 1, by omega, by go_num, HF2, HBB.out _ (by simpa using hb3)⟩, by simp [intOf]; omega⟩
      · have e0 : Hid (leC r s n n = true) := Lib.hid (decide_eq_true ⟨rfl, fun j hj => HF.out j (by omega)⟩)
        obtain rfl : k = n := by omega
        go_wp2_with fail
        go_ret
        exact ⟨by rw [e0.out]; rfl, HB.out⟩
  · have e0 : Hid (leC r s n m = false) := Lib.hid (decide_eq_false (fun h => hnm h.1))
    have g : ((n : Int) = (m : Int)) = False := by simp; omega
    go_enter Try.func103, Try.ntmps103
    go_wp2_with fail
    go_ret
    exact ⟨by rw [e0.out]; rfl, Below.refl _ _⟩
theorem cellsLe_c (A B : Option Addr) (n m c1 c2 : Nat) (r s : Nat → Int × Int) (w : World) (h1 : CR w A n r) (h2 : CR w B m s) :
    Calls Try.prog 56 #[.slice A n c1, .slice B m c2] w fun e w' => e = .returned (.bool (leC r s n m)) ∧ Below w.heap.size w w' := by
  have H := Lib.hid (eqf_c A B n m c1 c2 r s w h1 h2)
  clear h1 h2
  go_enter Try.func56, Try.ntmps56
  go_wp2_with (go_at_call 103; refine (H.out).mono ?_; rintro e w' ⟨rfl, hb⟩)
  go_ret
  exact ⟨rfl, hb⟩
set_option maxRecDepth 100000 in
set_option maxHeartbeats 3200000 in
theorem rLe_c (A B : Option Addr) (n m c1 c2 : Nat) (r s : Nat → Int × Int) (w : World) (h1 : CR w A n r) (h2 : CR w B m s) :
    Calls Try.prog 46 #[.slice A n c1, .slice B m c2] w fun e w' => e = .returned (.bool (leC r s n m)) ∧ Below w.heap.size w w' := by
  have hmax := h1.1
  have hmax2 := h2.1
  have H1 := Lib.hid h1
  have H2 := Lib.hid h2
  clear h1 h2
  by_cases hnm : n = m
  · subst hnm
    go_enter Try.func46, Try.ntmps46
    go_wp2_with fail
    go_loopw [5] (fun v wr => ∃ k : Nat, k ≤ n ∧ v = .int .i64 k ∧ Hid (∀ j, j < k → leI (r j).1 (r j).2 (s j).1 (s j).2 = true) ∧ Below w.heap.size w wr) (fun v _ => n - (intOf v).toNat)
    case atStart => exact ⟨0, by omega, rfl, Lib.hid (fun j hj => absurd hj (by omega)), Below.refl _ _⟩
    case round =>
      obtain ⟨k, hk, rfl, HF, hb⟩ := hrel
      have HB := Lib.hid hb
      clear hb
      by_cases hlt : k < n
      · obtain ⟨ad, rfl, had, c0, c1⟩ := (H1.out.below HB.out).at hlt
        obtain ⟨bd, rfl, hbd, d0, d1⟩ := (H2.out.below HB.out).at hlt
        have hk0 : (0 : Int) ≤ (k : Int) := by omega
        have hk1 : (k : Int) < (n : Int) := by omega
        obtain ⟨p, hp⟩ : ∃ p, r k = p := ⟨_, rfl⟩
        obtain ⟨q, hq⟩ : ∃ q, s k = q := ⟨_, rfl⟩
        rw [hp] at c0 c1
        rw [hq] at d0 d1
        obtain ⟨wo, rfl⟩ : ∃ wo : World, wo = wr := ⟨_, rfl⟩
        have LC := fun W => riLe_c p.1 p.2 q.1 q.2 W
        obtain ⟨b, hb⟩ : ∃ b, leI p.1 p.2 q.1 q.2 = b := ⟨_, rfl⟩
        simp only [hb] at LC
        have k0 := fun (x' : WIn (Below wo.heap.size wo)) => cell_later x'.h c0
        have k1 := fun (x' : WIn (Below wo.heap.size wo)) => cell_later x'.h c1
        have k2 := fun (x' : WIn (Below wo.heap.size wo)) => cell_later x'.h d0
        have k3 := fun (x' : WIn (Below wo.heap.size wo)) => cell_later x'.h d1
        clear c0 c1 d0 d1 had hbd
        go_upto_region 6 with fail
        refine region_in (Below wo.heap.size wo) (by kernel_rfl) (by kernel_rfl) (Below.refl _ _).drew (fun inst => ?_)
        iterate 10 (go_big_quiet_step ((go_at_call 89; exact call_grow (Nat.le_refl _) (LC _))))
        refine wpQuiet_nil ?_
        intro wd hbw
        have HBw : Hid (Below w.heap.size w wd) := Lib.hid (below_next HB.out HB.out.size hbw)
        clear k0 k1 k2 k3 hbw
        cases b
        · have e0 : Hid (leC r s n n = false) := Lib.hid (decide_eq_false (fun h => by have := h.2 k hlt; rw [hp, hq, hb] at this; cases this))
          clear hp hq hb
          go_wp2_with fail
          go_ret
          exact ⟨by rw [e0.out]; rfl, HBw.out⟩
        · have HF2 : Hid (∀ j, j < k + 1 → leI (r j).1 (r j).2 (s j).1 (s j).2 = true) := Lib.hid (fun j hj => by
            by_cases q' : j = k
            · subst q'; rw [hp, hq]; exact hb
            · exact HF.out j (by omega))
          clear hp hq hb
          go_wp2_with fail
          all_goals exact ⟨⟨k + 1, by omega, by go_num, HF2, HBw.out⟩, by simp [intOf]; omega⟩
      · have e0 : Hid (leC r s n n = true) := Lib.hid (decide_eq_true ⟨rfl, fun j hj => HF.out j (by omega)⟩)
        obtain rfl : k = n := by omega
        go_wp2_with fail
        go_ret
        exact ⟨by rw [e0.out]; rfl, HB.out⟩
  · have e0 : Hid (leC r s n m = false) := Lib.hid (decide_eq_false (fun h => hnm h.1))
    have g : ((n : Int) = (m : Int)) = False := by simp; omega
    go_enter Try.func46, Try.ntmps46
    go_wp2_with fail
    go_ret
    exact ⟨by rw [e0.out]; rfl, Below.refl _ _⟩
set_option maxRecDepth 100000 in
set_option maxHeartbeats 3200000 in
theorem sameI_c (A B : Option Addr) (n m c1 c2 : Nat) (r s : Nat → Int × Int) (w : World) (h1 : CR w A n r) (h2 : CR w B m s) :
    Calls Try.prog 48 #[.slice A n c1, .slice B m c2] w fun e w' => e = .returned (.bool (sameC r s n m)) ∧ Below w.heap.size w w' := by
  have hmax := h1.1
  have hmax2 := h2.1
  have H1 := Lib.hid h1
  have H2 := Lib.hid h2
  clear h1 h2
  by_cases hnm : n = m
  · subst hnm
    go_enter Try.func48, Try.ntmps48
    go_wp2_with fail
    go_loopw [5] (fun v wr => ∃ k : Nat, k ≤ n ∧ v = .int .i64 k ∧ Hid (∀ j, j < k → r j = s j) ∧ Below w.heap.size w wr) (fun v _ => n - (intOf v).toNat)
    case atStart => exact ⟨0, by omega, rfl, Lib.hid (fun j hj => absurd hj (by omega)), Below.refl _ _⟩
    case round =>
      obtain ⟨k, hk, rfl, HF, hb⟩ := hrel
      have HB := Lib.hid hb
      clear hb
      by_cases hlt : k < n
      · obtain ⟨ad, rfl, had, c0, c1⟩ := (H1.out.below HB.out).at hlt
        obtain ⟨bd, rfl, hbd, d0, d1⟩ := (H2.out.below HB.out).at hlt
        have hk0 : (0 : Int) ≤ (k : Int) := by omega
        have hk1 : (k : Int) < (n : Int) := by omega
        obtain ⟨⟨p1, p2⟩, hp⟩ : ∃ p, r k = p := ⟨_, rfl⟩
        obtain ⟨⟨q1, q2⟩, hq⟩ : ∃ q, s k = q := ⟨_, rfl⟩
        rw [hp] at c0 c1
        rw [hq] at d0 d1
        simp only at c0 c1 d0 d1
        obtain ⟨wo, rfl⟩ : ∃ wo : World, wo = wr := ⟨_, rfl⟩
        have k0 := fun (x' : WIn (Below wo.heap.size wo)) => cell_later x'.h c0
        have k1 := fun (x' : WIn (Below wo.heap.size wo)) => cell_later x'.h c1
        have k2 := fun (x' : WIn (Below wo.heap.size wo)) => cell_later x'.h d0
        have k3 := fun (x' : WIn (Below wo.heap.size wo)) => cell_later x'.h d1
        clear c0 c1 d0 d1 had hbd
        by_cases he : p1 = q1 ∧ p2 = q2
        · obtain ⟨rfl, rfl⟩ := he
          have HF2 : Hid (∀ j, j < k + 1 → r j = s j) := Lib.hid (fun j hj => by
            by_cases q' : j = k
            · subst q'; rw [hp, hq]
            · exact HF.out j (by omega))
          clear hp hq
          go_upto_region 6 with fail
          refine region_in (Below wo.heap.size wo) (by kernel_rfl) (by kernel_rfl) (Below.refl _ _).drew (fun inst => ?_)
          iterate 9 (go_big_quiet_step (fail))
          refine wpQuiet_nil ?_
          intro wd hbw
          have HBw : Hid (Below w.heap.size w wd) := Lib.hid (below_next HB.out HB.out.size hbw)
          clear k0 k1 k2 k3 hbw
          go_wp2_with fail
          all_goals exact ⟨⟨k + 1, by omega, by go_num, HF2, HBw.out⟩, by simp [intOf]; omega⟩
        · have e0 : Hid (sameC r s n n = false) := Lib.hid (decide_eq_false (fun h => he (by have := h.2 k hlt; rw [hp, hq] at this; injection this with e1 e2; exact ⟨e1, e2⟩)))
          clear hp hq
          by_cases h1 : p1 = q1
          · have h2 : (p2 = q2) = False := by simp; exact fun h => he ⟨h1, h⟩
            subst h1
            clear he
            go_upto_region 6 with fail
            refine region_in (Below wo.heap.size wo) (by kernel_rfl) (by kernel_rfl) (Below.refl _ _).drew (fun inst => ?_)
            iterate 9 (go_big_quiet_step (fail))
            refine wpQuiet_nil ?_
            intro wd hbw
            have HBw : Hid (Below w.heap.size w wd) := Lib.hid (below_next HB.out HB.out.size hbw)
            clear k0 k1 k2 k3 hbw
            go_wp2_with fail
            go_ret
            exact ⟨by rw [e0.out]; rfl, HBw.out⟩
          · have h2 : (p1 = q1) = False := by simp; exact h1
            clear he h1
            go_upto_region 6 with fail
            refine region_in (Below wo.heap.size wo) (by kernel_rfl) (by kernel_rfl) (Below.refl _ _).drew (fun inst => ?_)
            iterate 9 (go_big_quiet_step (fail))
            refine wpQuiet_nil ?_
            intro wd hbw
            have HBw : Hid (Below w.heap.size w wd) := Lib.hid (below_next HB.out HB.out.size hbw)
            clear k0 k1 k2 k3 hbw
            go_wp2_with fail
            go_ret
            exact ⟨by rw [e0.out]; rfl, HBw.out⟩
      · have e0 : Hid (sameC r s n n = true) := Lib.hid (decide_eq_true ⟨rfl, fun j hj => HF.out j (by omega)⟩)
        obtain rfl : k = n := by omega
        go_wp2_with fail
        go_ret
        exact ⟨by rw [e0.out]; rfl, HB.out⟩
  · have e0 : Hid (sameC r s n m = false) := Lib.hid (decide_eq_false (fun h => hnm h.1))
    have g : ((n : Int) = (m : Int)) = False := by simp; omega
    go_enter Try.func48, Try.ntmps48
    go_wp2_with fail
    go_ret
    exact ⟨by rw [e0.out]; rfl, Below.refl _ _⟩
end Go.Proofs.Ytdmphpkiclfhhaa.C
