/- Matrices that come in: r14.square, r14.Square, l16.small: walks. Printed by wip/gen_zscan.py. -/
import Derived.Test.YtnopjijhbflfdaaZRead
namespace Go.Proofs.Ytnopjijhbflfdaa.C
open Go.RowKit
set_option linter.unusedSimpArgs false
set_option linter.unusedVariables false
/-- Any matrix that is read. -/
def GM (w : World) (A : Option Addr) (n : Nat) (L : Nat → Nat) (m : Z.M) : Prop :=
  n ≤ 9223372036854775807 ∧ (∀ i, i < n → L i ≤ 9223372036854775807) ∧ (0 < n → ∃ (a : Addr) (R : Nat → Option Addr) (C : Nat → Nat), A = some a ∧ (∀ i, i < n → w.cell? (a.add i) = some (.slice (R i) (L i) (C i)) ∧ L i ≤ C i) ∧ ∀ i j, i < n → j < L i → ∃ r, R i = some r ∧ w.cell? (r.add j) = some (.int .i64 (m i j)))
theorem GM.below {w w' : World} {A : Option Addr} {n : Nat} {L : Nat → Nat} {m : Z.M} (h : GM w A n L m) (hb : Below w.heap.size w w') : GM w' A n L m :=
  ⟨h.1, h.2.1, fun h0 => by
    obtain ⟨a, R, C, e, h1, h2⟩ := h.2.2 h0
    exact ⟨a, R, C, e, fun i hi => ⟨cell_later hb (h1 i hi).1, (h1 i hi).2⟩, fun i j hi hj => by obtain ⟨r, e2, h3⟩ := h2 i j hi hj; exact ⟨r, e2, cell_later hb h3⟩⟩⟩
theorem GM.rm {w : World} {A : Option Addr} {n : Nat} {L : Nat → Nat} {m : Z.M} (h : GM w A n L m) (hn : 0 < n) (hL : ∀ i, i < n → L i = n) : ∃ a, A = some a ∧ RM w a n m := by
  obtain ⟨a, R, C, e, h1, h2⟩ := h.2.2 hn
  refine ⟨a, e, fun i => (R i).getD ⟨0, 0, none⟩, C, fun i hi => ?_, fun i j hi hj => ?_⟩
  · obtain ⟨r, e2, _⟩ := h2 i 0 hi (by rw [hL i hi]; exact hn)
    have := h1 i hi
    rw [hL i hi, e2] at this
    simp only [e2, Option.getD_some]
    exact this
  · obtain ⟨r, e2, h3⟩ := h2 i j hi (by rw [hL i hi]; exact hj)
    simp only [e2, Option.getD_some]
    exact h3
def sqB (n : Nat) (L : Nat → Nat) : Bool := decide (∀ i, i < n → L i = n)
def fitB (n : Nat) (L : Nat → Nat) (m : Z.M) : Bool := decide (∀ i, i < n → ∀ j, j < L i → -1099511627776 ≤ m i j ∧ m i j ≤ 1099511627776)
def smallB (n : Nat) (L : Nat → Nat) (m : Z.M) : Bool := decide (∀ i, i < n → ∀ j, j < L i → m i j = 1099511627776 ∨ (-17179869184 ≤ m i j ∧ m i j ≤ 17179869184))
set_option maxRecDepth 100000 in
set_option maxHeartbeats 1600000 in
theorem square_c (A : Option Addr) (n cap : Nat) (L : Nat → Nat) (m : Z.M) (w : World) (h : GM w A n L m) :
    Calls Try.prog 35 #[.agg #[.slice A n cap]] w (BoolPost (sqB n L) w) := by
  have hmax := h.1
  have H := Lib.hid h
  clear h
  go_enter Try.func35, Try.ntmps35
  go_upto_region 1 with fail
  refine at_world (fun W => Hid (Below w.heap.size w W ∧ w.heap.size < W.heap.size) ∧ (∀ o, W.cell? ⟨w.heap.size, o, none⟩ = [Value.slice A n cap][o]?)) ⟨Lib.hid ⟨(by repeat' (first | exact Below.refl _ _ | (refine Below.alloc ?_ ?_ _) | (refine Below.setCell ?_ ?_ _) | (refine Below.drew ?_) | (refine below_next ?_ ?_ (by assumption)) | omega | (simp; done) | (simp; omega))), by simp⟩, (by intro o; simp [go_sem])⟩ ?_
  intro W0 ⟨HB0, k0⟩
  have K0 := Lib.hid k0
  clear k0
  go_wp2_with fail
  go_loopw [3] (fun i wr => ∃ k : Nat, k ≤ n ∧ i = .int .i64 k ∧ Hid (∀ i, i < k → L i = n) ∧ Below W0.heap.size W0 wr) (fun i _ => n - (intOf i).toNat)
  case atStart => exact ⟨0, by omega, rfl, Lib.hid (fun i hi => absurd hi (by omega)), Below.refl _ _⟩
  case round =>
    obtain ⟨k, hk, rfl, HF, hb⟩ := hrel
    have HB := Lib.hid hb
    have HW := Lib.hid (HB0.out.1.trans (hb.mono HB0.out.1.size))
    have k0 := fun o => (hb.cell (p := ⟨w.heap.size, o, none⟩) (by have := HB0.out.2; show w.heap.size < _; omega)).trans (K0.out o)
    have hsz : w.heap.size < wr.heap.size := by have := HB0.out.2; have := hb.size; omega
    clear hb
    by_cases hlt : k < n
    · obtain ⟨a, R, C, rfl, h1, h2⟩ := (H.out.below HW.out).2.2 (by omega)
      have hL := H.out.2.1 k hlt
      have d1 := fun (x : WIn (Below wr.heap.size wr)) => cell_later x.h (h1 k hlt).1
      have d3 := fun (x : WIn (Below wr.heap.size wr)) (o : Nat) => (x.h.cell (p := ⟨w.heap.size, o, none⟩) (by show w.heap.size < _; omega)).trans (k0 o)
      have hk0 : (0 : Int) ≤ (k : Int) := by omega
      have hk1 : (k : Int) < (n : Int) := by omega
      obtain ⟨l, hl⟩ : ∃ l, L k = l := ⟨_, rfl⟩
      rw [hl] at d1 hL
      clear h1 h2
      obtain ⟨wo, rfl⟩ : ∃ wo : World, wo = wr := ⟨_, rfl⟩
      by_cases e : l = n
      · subst e
        have HF2 : Hid (∀ i, i < k + 1 → L i = l) := Lib.hid (fun i hi => by
          by_cases q : i = k
          · subst q; exact hl
          · exact HF.out i (by omega))
        clear hl
        go_upto_region 4 with fail
        refine region_in (Below wo.heap.size wo) (by kernel_rfl) (by kernel_rfl) (Below.refl _ _).drew (fun inst => ?_)
        iterate 10 (go_big_quiet_step (fail))
        refine wpQuiet_nil ?_
        intro wd hbd
        clear d1 d3 k0
        go_wp2_with fail
        all_goals exact ⟨⟨k + 1, by omega, by go_num, HF2, below_next HB.out HB.out.size hbd⟩, by simp [intOf]; omega⟩
      · have g1 : ((l : Int) != (n : Int)) = true := by simp; omega
        have e0 : Hid (sqB n L = false) := Lib.hid (decide_eq_false (fun h => e (by rw [← hl]; exact h k hlt)))
        clear e hl
        go_upto_region 4 with fail
        refine region_in (Below wo.heap.size wo) (by kernel_rfl) (by kernel_rfl) (Below.refl _ _).drew (fun inst => ?_)
        iterate 10 (go_big_quiet_step (fail))
        refine wpQuiet_nil ?_
        intro wd hbd
        clear d1 d3 k0
        go_wp2_with fail
        go_ret
        exact ⟨by rw [e0.out]; rfl, below_next HW.out HW.out.size hbd⟩
    · have e0 : Hid (sqB n L = true) := Lib.hid (decide_eq_true (fun i hi => HF.out i (by omega)))
      have hkn : k = n := by omega
      subst hkn
      go_wp2_with fail
      go_ret
      exact ⟨by rw [e0.out]; rfl, HW.out⟩
set_option maxRecDepth 100000 in
set_option maxHeartbeats 3200000 in
theorem Square_c (A : Option Addr) (n cap : Nat) (L : Nat → Nat) (m : Z.M) (w : World) (h : GM w A n L m) :
    Calls Try.prog 9 #[.agg #[.slice A n cap]] w (BoolPost (fitB n L m && sqB n L && decide (0 < n)) w) := by
  have hmax := h.1
  have H := Lib.hid h
  clear h
  go_enter Try.func9, Try.ntmps9
  go_upto_region 1 with fail
  refine at_world (fun W => Hid (Below w.heap.size w W ∧ w.heap.size < W.heap.size) ∧ (∀ o, W.cell? ⟨w.heap.size, o, none⟩ = [Value.slice A n cap][o]?)) ⟨Lib.hid ⟨(by repeat' (first | exact Below.refl _ _ | (refine Below.alloc ?_ ?_ _) | (refine Below.setCell ?_ ?_ _) | (refine Below.drew ?_) | (refine below_next ?_ ?_ (by assumption)) | omega | (simp; done) | (simp; omega))), by simp⟩, (by intro o; simp [go_sem])⟩ ?_
  intro W0 ⟨HB0, k0⟩
  go_wp2_with fail
  go_loop [3] (fun i => ∃ k : Nat, k ≤ n ∧ i = .int .i64 k ∧ Hid (∀ i, i < k → ∀ j, j < L i → -1099511627776 ≤ m i j ∧ m i j ≤ 1099511627776)) (fun i => n - (intOf i).toNat)
  case atStart => exact ⟨0, by omega, rfl, Lib.hid (fun i hi => absurd hi (by omega))⟩
  case round =>
    obtain ⟨k, hk, rfl, HF⟩ := hrel
    by_cases hlt : k < n
    · obtain ⟨a, R, C, rfl, h1, h2⟩ := (H.out.below HB0.out.1).2.2 (by omega)
      have hL := H.out.2.1 k hlt
      have c1 := (h1 k hlt).1
      have H2 := Lib.hid (fun j hj => h2 k j hlt hj)
      have hk0 : (0 : Int) ≤ (k : Int) := by omega
      have hk1 : (k : Int) < (n : Int) := by omega
      obtain ⟨l, hl⟩ : ∃ l, L k = l := ⟨_, rfl⟩
      rw [hl] at c1 hL H2
      have HLk := Lib.hid hl
      clear h1 h2 hl
      go_wp2_with fail
      go_loop [4] (fun i => ∃ t : Nat, t ≤ l ∧ i = .int .i64 t ∧ Hid (∀ j, j < t → (fun i j => -1099511627776 ≤ m i j ∧ m i j ≤ 1099511627776) k j)) (fun i => l - (intOf i).toNat)
      case atStart => exact ⟨0, by omega, rfl, Lib.hid (fun i hi => absurd hi (by omega))⟩
      case round =>
        obtain ⟨t, ht, rfl, HG⟩ := hrel
        by_cases hlu : t < l
        · obtain ⟨r, hr, c2⟩ := H2.out t hlu
          have c1' := c1
          rw [hr] at c1'
          clear c1 hr
          have ht0 : (0 : Int) ≤ (t : Int) := by omega
          have ht1 : (t : Int) < (l : Int) := by omega
          obtain ⟨x, hx⟩ : ∃ x, m k t = x := ⟨_, rfl⟩
          rw [hx] at c2
          have HX := Lib.hid hx
          clear hx
          by_cases cc : x < -1099511627776
          · have g1 : decide (x < -1099511627776) = true := decide_eq_true cc
            have e0 : Hid (fitB n L m = false) := Lib.hid (decide_eq_false (fun h => by have := h k hlt t (by rw [HLk.out]; exact hlu); rw [HX.out] at this; omega))
            clear cc
            go_wp2_with fail
            go_ret
            exact ⟨by rw [e0.out]; rfl, HB0.out.1⟩
          have n1 := Lib.hid cc
          clear cc
          by_cases cc : 1099511627776 < x
          · have g1 : decide (x < -1099511627776) = false := decide_eq_false n1.out
            have g2 : decide (1099511627776 < x) = true := decide_eq_true cc
            have e0 : Hid (fitB n L m = false) := Lib.hid (decide_eq_false (fun h => by have := h k hlt t (by rw [HLk.out]; exact hlu); rw [HX.out] at this; have q1 := n1.out; omega))
            clear cc
            go_wp2_with fail
            go_ret
            exact ⟨by rw [e0.out]; rfl, HB0.out.1⟩
          have n2 := Lib.hid cc
          clear cc
          have g1 : decide (x < -1099511627776) = false := decide_eq_false n1.out
          have g2 : decide (1099511627776 < x) = false := decide_eq_false n2.out
          have HG2 : Hid (∀ j, j < t + 1 → (fun i j => -1099511627776 ≤ m i j ∧ m i j ≤ 1099511627776) k j) := Lib.hid (fun j hj => by
            by_cases q : j = t
            · subst q; show -1099511627776 ≤ m k j ∧ m k j ≤ 1099511627776; rw [HX.out]; have q1 := n1.out; have q2 := n2.out; omega
            · exact HG.out j (by omega))
          go_wp2_with fail
          all_goals exact ⟨⟨t + 1, by omega, by go_num, HG2⟩, by simp [intOf]; omega⟩
        · have HF2 : Hid (∀ i, i < k + 1 → ∀ j, j < L i → -1099511627776 ≤ m i j ∧ m i j ≤ 1099511627776) := Lib.hid (fun i hi j hj => by
            by_cases q : i = k
            · subst q; rw [HLk.out] at hj; exact HG.out j (by omega)
            · exact HF.out i (by omega) j hj)
          have htl : t = l := by omega
          subst htl
          go_wp2_with fail
          all_goals exact ⟨⟨k + 1, by omega, by go_num, HF2⟩, by simp [intOf]; omega⟩
    · have e0 : Hid (fitB n L m = true) := Lib.hid (decide_eq_true (fun i hi => HF.out i (by omega)))
      have hkn : k = n := by omega
      subst hkn
      have k0' := k0
      cases hs : sqB k L with
      | true =>
        have SQ := square_c A k cap L m W0 (H.out.below HB0.out.1)
        rw [hs] at SQ
        by_cases hz : 0 < k
        · have g1 : decide (0 < (k : Int)) = true := decide_eq_true (by omega)
          have e1 : Hid (decide (0 < k) = true) := Lib.hid (decide_eq_true hz)
          have HS := Lib.hid hs
          clear hs hz
          go_wp2_with (go_at_call 35; refine SQ.mono ?_; rintro e w' ⟨rfl, hb⟩; have k1 := fun o => (hb.cell (p := ⟨w.heap.size, o, none⟩) (by have := HB0.out.2; show w.heap.size < _; omega)).trans (k0' o))
          go_ret
          exact ⟨by rw [e0.out, e1.out, HS.out]; rfl, below_next HB0.out.1 HB0.out.1.size hb⟩
        · have g1 : decide (0 < (k : Int)) = false := decide_eq_false (by omega)
          have e1 : Hid (decide (0 < k) = false) := Lib.hid (decide_eq_false hz)
          have HS := Lib.hid hs
          clear hs hz
          go_wp2_with (go_at_call 35; refine SQ.mono ?_; rintro e w' ⟨rfl, hb⟩; have k1 := fun o => (hb.cell (p := ⟨w.heap.size, o, none⟩) (by have := HB0.out.2; show w.heap.size < _; omega)).trans (k0' o))
          go_ret
          exact ⟨by rw [e0.out, e1.out, HS.out]; rfl, below_next HB0.out.1 HB0.out.1.size hb⟩
      | false =>
        have SQ := square_c A k cap L m W0 (H.out.below HB0.out.1)
        rw [hs] at SQ
        have HS := Lib.hid hs
        clear hs
        go_wp2_with (go_at_call 35; refine SQ.mono ?_; rintro e w' ⟨rfl, hb⟩)
        go_ret
        exact ⟨by rw [e0.out, HS.out]; rfl, below_next HB0.out.1 HB0.out.1.size hb⟩
set_option maxRecDepth 100000 in
set_option maxHeartbeats 3200000 in
theorem small_c (A : Option Addr) (n cap : Nat) (L : Nat → Nat) (m : Z.M) (w : World) (h : GM w A n L m) :
    Calls Try.prog 10 #[.agg #[.slice A n cap]] w (BoolPost (smallB n L m) w) := by
  have hmax := h.1
  have H := Lib.hid h
  clear h
  go_enter Try.func10, Try.ntmps10
  go_upto_region 1 with fail
  refine at_world (fun W => Hid (Below w.heap.size w W ∧ w.heap.size < W.heap.size) ∧ (∀ o, W.cell? ⟨w.heap.size, o, none⟩ = [Value.slice A n cap][o]?)) ⟨Lib.hid ⟨(by repeat' (first | exact Below.refl _ _ | (refine Below.alloc ?_ ?_ _) | (refine Below.setCell ?_ ?_ _) | (refine Below.drew ?_) | (refine below_next ?_ ?_ (by assumption)) | omega | (simp; done) | (simp; omega))), by simp⟩, (by intro o; simp [go_sem])⟩ ?_
  intro W0 ⟨HB0, k0⟩
  go_wp2_with fail
  go_loop [3] (fun i => ∃ k : Nat, k ≤ n ∧ i = .int .i64 k ∧ Hid (∀ i, i < k → ∀ j, j < L i → m i j = 1099511627776 ∨ (-17179869184 ≤ m i j ∧ m i j ≤ 17179869184))) (fun i => n - (intOf i).toNat)
  case atStart => exact ⟨0, by omega, rfl, Lib.hid (fun i hi => absurd hi (by omega))⟩
  case round =>
    obtain ⟨k, hk, rfl, HF⟩ := hrel
    by_cases hlt : k < n
    · obtain ⟨a, R, C, rfl, h1, h2⟩ := (H.out.below HB0.out.1).2.2 (by omega)
      have hL := H.out.2.1 k hlt
      have c1 := (h1 k hlt).1
      have H2 := Lib.hid (fun j hj => h2 k j hlt hj)
      have hk0 : (0 : Int) ≤ (k : Int) := by omega
      have hk1 : (k : Int) < (n : Int) := by omega
      obtain ⟨l, hl⟩ : ∃ l, L k = l := ⟨_, rfl⟩
      rw [hl] at c1 hL H2
      have HLk := Lib.hid hl
      clear h1 h2 hl
      go_wp2_with fail
      go_loop [4] (fun i => ∃ t : Nat, t ≤ l ∧ i = .int .i64 t ∧ Hid (∀ j, j < t → (fun i j => m i j = 1099511627776 ∨ (-17179869184 ≤ m i j ∧ m i j ≤ 17179869184)) k j)) (fun i => l - (intOf i).toNat)
      case atStart => exact ⟨0, by omega, rfl, Lib.hid (fun i hi => absurd hi (by omega))⟩
      case round =>
        obtain ⟨t, ht, rfl, HG⟩ := hrel
        by_cases hlu : t < l
        · obtain ⟨r, hr, c2⟩ := H2.out t hlu
          have c1' := c1
          rw [hr] at c1'
          clear c1 hr
          have ht0 : (0 : Int) ≤ (t : Int) := by omega
          have ht1 : (t : Int) < (l : Int) := by omega
          obtain ⟨x, hx⟩ : ∃ x, m k t = x := ⟨_, rfl⟩
          rw [hx] at c2
          have HX := Lib.hid hx
          clear hx
          by_cases cc : x = 1099511627776
          · have g1 : (x != 1099511627776) = false := by simp [cc]
            have HG2 : Hid (∀ j, j < t + 1 → (fun i j => m i j = 1099511627776 ∨ (-17179869184 ≤ m i j ∧ m i j ≤ 17179869184)) k j) := Lib.hid (fun j hj => by
              by_cases q : j = t
              · subst q; show m k j = 1099511627776 ∨ (-17179869184 ≤ m k j ∧ m k j ≤ 17179869184); rw [HX.out]; omega
              · exact HG.out j (by omega))
            clear cc
            go_wp2_with fail
            all_goals exact ⟨⟨t + 1, by omega, by go_num, HG2⟩, by simp [intOf]; omega⟩
          have n1 := Lib.hid cc
          clear cc
          by_cases cc : 17179869184 < x
          · have g1 : (x != 1099511627776) = true := by have := n1.out; simpa using this
            have g2 : decide (17179869184 < x) = true := decide_eq_true cc
            have e0 : Hid (smallB n L m = false) := Lib.hid (decide_eq_false (fun h => by have := h k hlt t (by rw [HLk.out]; exact hlu); rw [HX.out] at this; have q1 := n1.out; omega))
            clear cc
            go_wp2_with fail
            go_ret
            exact ⟨by rw [e0.out]; rfl, HB0.out.1⟩
          have n2 := Lib.hid cc
          clear cc
          by_cases cc : x < -17179869184
          · have g1 : (x != 1099511627776) = true := by have := n1.out; simpa using this
            have g2 : decide (17179869184 < x) = false := decide_eq_false n2.out
            have g3 : decide (x < -17179869184) = true := decide_eq_true cc
            have e0 : Hid (smallB n L m = false) := Lib.hid (decide_eq_false (fun h => by have := h k hlt t (by rw [HLk.out]; exact hlu); rw [HX.out] at this; have q1 := n1.out; have q2 := n2.out; omega))
            clear cc
            go_wp2_with fail
            go_ret
            exact ⟨by rw [e0.out]; rfl, HB0.out.1⟩
          have n3 := Lib.hid cc
          clear cc
          have g1 : (x != 1099511627776) = true := by have := n1.out; simpa using this
          have g2 : decide (17179869184 < x) = false := decide_eq_false n2.out
          have g3 : decide (x < -17179869184) = false := decide_eq_false n3.out
          have HG2 : Hid (∀ j, j < t + 1 → (fun i j => m i j = 1099511627776 ∨ (-17179869184 ≤ m i j ∧ m i j ≤ 17179869184)) k j) := Lib.hid (fun j hj => by
            by_cases q : j = t
            · subst q; show m k j = 1099511627776 ∨ (-17179869184 ≤ m k j ∧ m k j ≤ 17179869184); rw [HX.out]; have q1 := n1.out; have q2 := n2.out; have q3 := n3.out; omega
            · exact HG.out j (by omega))
          go_wp2_with fail
          all_goals exact ⟨⟨t + 1, by omega, by go_num, HG2⟩, by simp [intOf]; omega⟩
        · have HF2 : Hid (∀ i, i < k + 1 → ∀ j, j < L i → m i j = 1099511627776 ∨ (-17179869184 ≤ m i j ∧ m i j ≤ 17179869184)) := Lib.hid (fun i hi j hj => by
            by_cases q : i = k
            · subst q; rw [HLk.out] at hj; exact HG.out j (by omega)
            · exact HF.out i (by omega) j hj)
          have htl : t = l := by omega
          subst htl
          go_wp2_with fail
          all_goals exact ⟨⟨k + 1, by omega, by go_num, HF2⟩, by simp [intOf]; omega⟩
    · have e0 : Hid (smallB n L m = true) := Lib.hid (decide_eq_true (fun i hi => HF.out i (by omega)))
      have hkn : k = n := by omega
      subst hkn
      go_wp2_with fail
      go_ret
      exact ⟨by rw [e0.out]; rfl, HB0.out.1⟩
end Go.Proofs.Ytnopjijhbflfdaa.C
