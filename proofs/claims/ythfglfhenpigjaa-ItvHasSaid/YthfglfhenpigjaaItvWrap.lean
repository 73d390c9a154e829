/- The contract of itv.Wrap: its answer in closed form; for numbers below 2^61, in whatever memory. -/
import Derived.Test.YthfglfhenpigjaaItv2
namespace Go.Proofs.Ythfglfhenpigjaa.C
open Go.RowKit
set_option linter.unusedSimpArgs false
set_option linter.unusedVariables false
attribute [local go_sem] fieldItv0 fieldItv1

def wrapI (t a b : Int) : Int × Int := if b < a ∨ ¬ isT t then (1, 0) else if wrapT t a ≤ wrapT t b ∧ wrapT t b - wrapT t a = b - a then (wrapT t a, wrapT t b) else ofI t
theorem minT_le (t : Int) : minT t ≤ maxT t := by
  rcases tcases t with rfl | rfl | rfl | rfl | rfl | rfl | ⟨h1, h2, h3, h4, h5, h6⟩
  iterate 6 (first | decide | skip)
  simp [minT, maxT, h1, h2, h3, h4, h5, h6]
set_option maxHeartbeats 1600000 in
theorem itvWrap_c (t a b : Int) (w : World) (ha : -2305843009213693952 ≤ a) (ha2 : a ≤ 2305843009213693952) (hb0 : -2305843009213693952 ≤ b) (hb2 : b ≤ 2305843009213693952) :
    Calls Try.prog 8 #[.int .i64 t, .agg #[.int .i64 a, .int .i64 b]] w fun e w' => e = .returned (.agg #[.int .i64 ((wrapI t a b).1), .int .i64 ((wrapI t a b).2)]) ∧ Below w.heap.size w w' := by
  by_cases h : b < a
  · have e0 : wrapI t a b = (1, 0) := by simp [wrapI, h]
    have h1 : decide (b < a) = true := decide_eq_true h
    rw [e0]
    clear e0 h
    go_enter Try.func8, Try.ntmps8
    go_wp2_with (first | (go_at_call 12; refine (itvOf_c _ _).mono ?_; rintro e w' ⟨rfl, hb⟩; have hbz := hb.size; (try simp at hbz); have hk0 := fun (o : Nat) => hb.cell (p := ⟨w.heap.size, o, none⟩) (by first | (simp; done) | (simp; omega)); have hf0 := fun (o : Nat) => hb.frozen (p := ⟨w.heap.size, o, none⟩) (by first | (simp; done) | (simp; omega)); (try simp [go_sem] at hk0 hf0); have hl0 : w.heap.size < w'.heap.size := (by omega); have hlj0 : ∀ j : Nat, w.heap.size < w'.heap.size + j := (fun _ => by omega); have hljk0 : ∀ j k : Nat, w.heap.size < w'.heap.size + j + k := (fun _ _ => by omega); have hljkl0 : ∀ j k l : Nat, w.heap.size < w'.heap.size + j + k + l := (fun _ _ _ => by omega); have hk1 := fun (o : Nat) => hb.cell (p := ⟨w.heap.size + 1, o, none⟩) (by first | (simp; done) | (simp; omega)); have hf1 := fun (o : Nat) => hb.frozen (p := ⟨w.heap.size + 1, o, none⟩) (by first | (simp; done) | (simp; omega)); (try simp [go_sem] at hk1 hf1); have hl1 : w.heap.size + 1 < w'.heap.size := (by omega); have hlj1 : ∀ j : Nat, w.heap.size + 1 < w'.heap.size + j := (fun _ => by omega); have hljk1 : ∀ j k : Nat, w.heap.size + 1 < w'.heap.size + j + k := (fun _ _ => by omega); have hljkl1 : ∀ j k l : Nat, w.heap.size + 1 < w'.heap.size + j + k + l := (fun _ _ _ => by omega)) | (go_at_call 17; refine (itvEmpty_x _ _ _).mono ?_; rintro e w' ⟨rfl, rfl⟩) | (go_at_call 28; refine (itvNone_c _).mono ?_; rintro e w' ⟨rfl, hb⟩; have hbz := hb.size; (try simp at hbz); have hk0 := fun (o : Nat) => hb.cell (p := ⟨w.heap.size, o, none⟩) (by first | (simp; done) | (simp; omega)); have hf0 := fun (o : Nat) => hb.frozen (p := ⟨w.heap.size, o, none⟩) (by first | (simp; done) | (simp; omega)); (try simp [go_sem] at hk0 hf0); have hl0 : w.heap.size < w'.heap.size := (by omega); have hlj0 : ∀ j : Nat, w.heap.size < w'.heap.size + j := (fun _ => by omega); have hljk0 : ∀ j k : Nat, w.heap.size < w'.heap.size + j + k := (fun _ _ => by omega); have hljkl0 : ∀ j k l : Nat, w.heap.size < w'.heap.size + j + k + l := (fun _ _ _ => by omega); have hk1 := fun (o : Nat) => hb.cell (p := ⟨w.heap.size + 1, o, none⟩) (by first | (simp; done) | (simp; omega)); have hf1 := fun (o : Nat) => hb.frozen (p := ⟨w.heap.size + 1, o, none⟩) (by first | (simp; done) | (simp; omega)); (try simp [go_sem] at hk1 hf1); have hl1 : w.heap.size + 1 < w'.heap.size := (by omega); have hlj1 : ∀ j : Nat, w.heap.size + 1 < w'.heap.size + j := (fun _ => by omega); have hljk1 : ∀ j k : Nat, w.heap.size + 1 < w'.heap.size + j + k := (fun _ _ => by omega); have hljkl1 : ∀ j k l : Nat, w.heap.size + 1 < w'.heap.size + j + k + l := (fun _ _ _ => by omega)))
    exact bodyPost_ret (v := .agg #[.int .i64 1, .int .i64 0]) (by simp [results, Try.results8, go_sem, *]) rfl ⟨rfl, (by repeat' (first | exact Below.refl _ _ | (refine Below.alloc ?_ ?_ _) | (refine Below.setCell ?_ ?_ _) | (refine Below.drew ?_) | (refine below_next ?_ ?_ (by assumption)) | omega | (simp; done) | (simp; omega)))⟩
  · have h1 : decide (b < a) = false := decide_eq_false h
    by_cases ht : isT t
    · have eo : ofI t = (minT t, maxT t) := by simp [ofI, ht]
      have h2 : decide (maxT t < minT t) = false := decide_eq_false (by have := minT_le t; omega)
      have ba := wrapT_bd t a
      have bb := wrapT_bd t b
      obtain ⟨ba1, ba2⟩ := ba
      obtain ⟨bb1, bb2⟩ := bb
      have HO : ∀ W : World, Calls Try.prog 12 #[.int .i64 t] W fun e w' => e = .returned (.agg #[.int .i64 (minT t), .int .i64 (maxT t)]) ∧ Below W.heap.size W w' := by
        have := itvOf_c t
        rw [eo] at this
        exact this
      have FW : Hid (wrapI t a b = if wrapT t a ≤ wrapT t b ∧ wrapT t b - wrapT t a = b - a then (wrapT t a, wrapT t b) else (minT t, maxT t)) := by
        show wrapI t a b = _
        unfold wrapI
        rw [if_neg (by simp [h, ht]), eo]
      by_cases c1 : wrapT t a ≤ wrapT t b ∧ wrapT t b - wrapT t a = b - a
      · have e0 := FW.out
        rw [if_pos c1] at e0
        rw [e0]
        obtain ⟨c2, c3⟩ := c1
        have C3 : Hid (wrapT t b - wrapT t a = b - a) := c3
        have c4 : decide (wrapT t a ≤ wrapT t b) = true := decide_eq_true c2
        have c5 : (wrapT t b - wrapT t a == b - a) = true := by simpa using c3
        clear c3
        have c1 := True.intro
        clear e0 eo h ht c1
        go_enter Try.func8, Try.ntmps8
        go_wp2_with (first | (go_at_call 12; refine (HO _).mono ?_; rintro e w' ⟨rfl, hb⟩; have hbz := hb.size; (try simp at hbz); have hk0 := fun (o : Nat) => hb.cell (p := ⟨w.heap.size, o, none⟩) (by first | (simp; done) | (simp; omega)); have hf0 := fun (o : Nat) => hb.frozen (p := ⟨w.heap.size, o, none⟩) (by first | (simp; done) | (simp; omega)); (try simp [go_sem] at hk0 hf0); have hl0 : w.heap.size < w'.heap.size := (by omega); have hlj0 : ∀ j : Nat, w.heap.size < w'.heap.size + j := (fun _ => by omega); have hljk0 : ∀ j k : Nat, w.heap.size < w'.heap.size + j + k := (fun _ _ => by omega); have hljkl0 : ∀ j k l : Nat, w.heap.size < w'.heap.size + j + k + l := (fun _ _ _ => by omega); have hk1 := fun (o : Nat) => hb.cell (p := ⟨w.heap.size + 1, o, none⟩) (by first | (simp; done) | (simp; omega)); have hf1 := fun (o : Nat) => hb.frozen (p := ⟨w.heap.size + 1, o, none⟩) (by first | (simp; done) | (simp; omega)); (try simp [go_sem] at hk1 hf1); have hl1 : w.heap.size + 1 < w'.heap.size := (by omega); have hlj1 : ∀ j : Nat, w.heap.size + 1 < w'.heap.size + j := (fun _ => by omega); have hljk1 : ∀ j k : Nat, w.heap.size + 1 < w'.heap.size + j + k := (fun _ _ => by omega); have hljkl1 : ∀ j k l : Nat, w.heap.size + 1 < w'.heap.size + j + k + l := (fun _ _ _ => by omega)) | (go_at_call 17; refine (itvEmpty_x _ _ _).mono ?_; rintro e w' ⟨rfl, rfl⟩))
        refine at_world (fun W => Below w'.heap.size w' W ∧ w'.heap.size < W.heap.size ∧ (∀ o, W.cell? ⟨w'.heap.size, o, none⟩ = [Value.int .i64 (minT t), Value.int .i64 (maxT t)][o]?)) ⟨(by repeat' (first | exact Below.refl _ _ | (refine Below.alloc ?_ ?_ _) | (refine Below.setCell ?_ ?_ _) | (refine Below.drew ?_) | (refine below_next ?_ ?_ (by assumption)) | omega | (simp; done) | (simp; omega))), (by simp; omega), (by intro o; simp [go_sem])⟩ ?_
        rintro W ⟨HW, hW1, hq⟩
        have hk2 := fun o => (HW.cell (p := ⟨w.heap.size, o, none⟩) (by simpa using hl0)).trans (hk0 o)
        have hf2 := fun o => (HW.frozen (p := ⟨w.heap.size, o, none⟩) (by simpa using hl0)).trans (hf0 o)
        have hk3 := fun o => (HW.cell (p := ⟨w.heap.size + 1, o, none⟩) (by simpa using hl1)).trans (hk1 o)
        have hf3 := fun o => (HW.frozen (p := ⟨w.heap.size + 1, o, none⟩) (by simpa using hl1)).trans (hf1 o)
        have hW2 : w.heap.size < W.heap.size := by omega
        have hW3 : w.heap.size + 1 < W.heap.size := by omega
        clear hk0 hf0 hk1 hf1
        go_region_held3 (fun w2 => w2.cell? ⟨w.heap.size, 0, none⟩ = some (.int .i64 a) ∧ w2.cell? ⟨w.heap.size, 1, none⟩ = some (.int .i64 b)) (exact ⟨cell_later (w := W) (by repeat' (first | exact Below.refl _ _ | (refine Below.alloc ?_ ?_ _) | (refine Below.setCell ?_ ?_ _) | (refine Below.drew ?_) | (refine below_next ?_ ?_ (by assumption)) | omega | (simp; done) | (simp; omega))) (by simpa using hk2 0), cell_later (w := W) (by repeat' (first | exact Below.refl _ _ | (refine Below.alloc ?_ ?_ _) | (refine Below.setCell ?_ ?_ _) | (refine Below.drew ?_) | (refine below_next ?_ ?_ (by assumption)) | omega | (simp; done) | (simp; omega))) (by simpa using hk2 1)⟩) (first | (go_at_call 29; refine (wrap_c _ _ _).mono ?_; rintro e w' ⟨rfl, rfl⟩))
        all_goals go_wp2
        all_goals (exact bodyPost_ret (v := .agg #[.int .i64 (wrapT t a), .int .i64 (wrapT t b)]) (by simp [results, Try.results8, go_sem, *]) rfl ⟨rfl, (by repeat' (first | exact Below.refl _ _ | (refine Below.alloc ?_ ?_ _) | (refine Below.setCell ?_ ?_ _) | (refine Below.drew ?_) | (refine below_next ?_ ?_ (by assumption)) | omega | (simp; done) | (simp; omega)))⟩)
      · have e0 := FW.out
        rw [if_neg c1] at e0
        rw [e0]
        by_cases c2 : wrapT t a ≤ wrapT t b
        · have c3 : ¬ (wrapT t b - wrapT t a = b - a) := fun h3 => c1 ⟨c2, h3⟩
          have c4 : decide (wrapT t a ≤ wrapT t b) = true := decide_eq_true c2
          have c5 : (wrapT t b - wrapT t a == b - a) = false := by simpa using c3
          clear c3
          clear e0 eo h ht c1
          go_enter Try.func8, Try.ntmps8
          go_wp2_with (first | (go_at_call 12; refine (HO _).mono ?_; rintro e w' ⟨rfl, hb⟩; have hbz := hb.size; (try simp at hbz); have hk0 := fun (o : Nat) => hb.cell (p := ⟨w.heap.size, o, none⟩) (by first | (simp; done) | (simp; omega)); have hf0 := fun (o : Nat) => hb.frozen (p := ⟨w.heap.size, o, none⟩) (by first | (simp; done) | (simp; omega)); (try simp [go_sem] at hk0 hf0); have hl0 : w.heap.size < w'.heap.size := (by omega); have hlj0 : ∀ j : Nat, w.heap.size < w'.heap.size + j := (fun _ => by omega); have hljk0 : ∀ j k : Nat, w.heap.size < w'.heap.size + j + k := (fun _ _ => by omega); have hljkl0 : ∀ j k l : Nat, w.heap.size < w'.heap.size + j + k + l := (fun _ _ _ => by omega); have hk1 := fun (o : Nat) => hb.cell (p := ⟨w.heap.size + 1, o, none⟩) (by first | (simp; done) | (simp; omega)); have hf1 := fun (o : Nat) => hb.frozen (p := ⟨w.heap.size + 1, o, none⟩) (by first | (simp; done) | (simp; omega)); (try simp [go_sem] at hk1 hf1); have hl1 : w.heap.size + 1 < w'.heap.size := (by omega); have hlj1 : ∀ j : Nat, w.heap.size + 1 < w'.heap.size + j := (fun _ => by omega); have hljk1 : ∀ j k : Nat, w.heap.size + 1 < w'.heap.size + j + k := (fun _ _ => by omega); have hljkl1 : ∀ j k l : Nat, w.heap.size + 1 < w'.heap.size + j + k + l := (fun _ _ _ => by omega)) | (go_at_call 17; refine (itvEmpty_x _ _ _).mono ?_; rintro e w' ⟨rfl, rfl⟩))
          refine at_world (fun W => Below w'.heap.size w' W ∧ w'.heap.size < W.heap.size ∧ (∀ o, W.cell? ⟨w'.heap.size, o, none⟩ = [Value.int .i64 (minT t), Value.int .i64 (maxT t)][o]?)) ⟨(by repeat' (first | exact Below.refl _ _ | (refine Below.alloc ?_ ?_ _) | (refine Below.setCell ?_ ?_ _) | (refine Below.drew ?_) | (refine below_next ?_ ?_ (by assumption)) | omega | (simp; done) | (simp; omega))), (by simp; omega), (by intro o; simp [go_sem])⟩ ?_
          rintro W ⟨HW, hW1, hq⟩
          have hk2 := fun o => (HW.cell (p := ⟨w.heap.size, o, none⟩) (by simpa using hl0)).trans (hk0 o)
          have hf2 := fun o => (HW.frozen (p := ⟨w.heap.size, o, none⟩) (by simpa using hl0)).trans (hf0 o)
          have hk3 := fun o => (HW.cell (p := ⟨w.heap.size + 1, o, none⟩) (by simpa using hl1)).trans (hk1 o)
          have hf3 := fun o => (HW.frozen (p := ⟨w.heap.size + 1, o, none⟩) (by simpa using hl1)).trans (hf1 o)
          have hW2 : w.heap.size < W.heap.size := by omega
          have hW3 : w.heap.size + 1 < W.heap.size := by omega
          clear hk0 hf0 hk1 hf1
          go_region_held3 (fun w2 => w2.cell? ⟨w.heap.size, 0, none⟩ = some (.int .i64 a) ∧ w2.cell? ⟨w.heap.size, 1, none⟩ = some (.int .i64 b)) (exact ⟨cell_later (w := W) (by repeat' (first | exact Below.refl _ _ | (refine Below.alloc ?_ ?_ _) | (refine Below.setCell ?_ ?_ _) | (refine Below.drew ?_) | (refine below_next ?_ ?_ (by assumption)) | omega | (simp; done) | (simp; omega))) (by simpa using hk2 0), cell_later (w := W) (by repeat' (first | exact Below.refl _ _ | (refine Below.alloc ?_ ?_ _) | (refine Below.setCell ?_ ?_ _) | (refine Below.drew ?_) | (refine below_next ?_ ?_ (by assumption)) | omega | (simp; done) | (simp; omega))) (by simpa using hk2 1)⟩) (first | (go_at_call 29; refine (wrap_c _ _ _).mono ?_; rintro e w' ⟨rfl, rfl⟩))
          all_goals go_wp2
          all_goals (exact bodyPost_ret (v := .agg #[.int .i64 (minT t), .int .i64 (maxT t)]) (by simp [results, Try.results8, go_sem, *]) rfl ⟨rfl, (by repeat' (first | exact Below.refl _ _ | (refine Below.alloc ?_ ?_ _) | (refine Below.setCell ?_ ?_ _) | (refine Below.drew ?_) | (refine below_next ?_ ?_ (by assumption)) | omega | (simp; done) | (simp; omega)))⟩)
        · have c4 : decide (wrapT t a ≤ wrapT t b) = false := decide_eq_false c2
          clear e0 eo h ht c1
          go_enter Try.func8, Try.ntmps8
          go_wp2_with (first | (go_at_call 12; refine (HO _).mono ?_; rintro e w' ⟨rfl, hb⟩; have hbz := hb.size; (try simp at hbz); have hk0 := fun (o : Nat) => hb.cell (p := ⟨w.heap.size, o, none⟩) (by first | (simp; done) | (simp; omega)); have hf0 := fun (o : Nat) => hb.frozen (p := ⟨w.heap.size, o, none⟩) (by first | (simp; done) | (simp; omega)); (try simp [go_sem] at hk0 hf0); have hl0 : w.heap.size < w'.heap.size := (by omega); have hlj0 : ∀ j : Nat, w.heap.size < w'.heap.size + j := (fun _ => by omega); have hljk0 : ∀ j k : Nat, w.heap.size < w'.heap.size + j + k := (fun _ _ => by omega); have hljkl0 : ∀ j k l : Nat, w.heap.size < w'.heap.size + j + k + l := (fun _ _ _ => by omega); have hk1 := fun (o : Nat) => hb.cell (p := ⟨w.heap.size + 1, o, none⟩) (by first | (simp; done) | (simp; omega)); have hf1 := fun (o : Nat) => hb.frozen (p := ⟨w.heap.size + 1, o, none⟩) (by first | (simp; done) | (simp; omega)); (try simp [go_sem] at hk1 hf1); have hl1 : w.heap.size + 1 < w'.heap.size := (by omega); have hlj1 : ∀ j : Nat, w.heap.size + 1 < w'.heap.size + j := (fun _ => by omega); have hljk1 : ∀ j k : Nat, w.heap.size + 1 < w'.heap.size + j + k := (fun _ _ => by omega); have hljkl1 : ∀ j k l : Nat, w.heap.size + 1 < w'.heap.size + j + k + l := (fun _ _ _ => by omega)) | (go_at_call 17; refine (itvEmpty_x _ _ _).mono ?_; rintro e w' ⟨rfl, rfl⟩))
          refine at_world (fun W => Below w'.heap.size w' W ∧ w'.heap.size < W.heap.size ∧ (∀ o, W.cell? ⟨w'.heap.size, o, none⟩ = [Value.int .i64 (minT t), Value.int .i64 (maxT t)][o]?)) ⟨(by repeat' (first | exact Below.refl _ _ | (refine Below.alloc ?_ ?_ _) | (refine Below.setCell ?_ ?_ _) | (refine Below.drew ?_) | (refine below_next ?_ ?_ (by assumption)) | omega | (simp; done) | (simp; omega))), (by simp; omega), (by intro o; simp [go_sem])⟩ ?_
          rintro W ⟨HW, hW1, hq⟩
          have hk2 := fun o => (HW.cell (p := ⟨w.heap.size, o, none⟩) (by simpa using hl0)).trans (hk0 o)
          have hf2 := fun o => (HW.frozen (p := ⟨w.heap.size, o, none⟩) (by simpa using hl0)).trans (hf0 o)
          have hk3 := fun o => (HW.cell (p := ⟨w.heap.size + 1, o, none⟩) (by simpa using hl1)).trans (hk1 o)
          have hf3 := fun o => (HW.frozen (p := ⟨w.heap.size + 1, o, none⟩) (by simpa using hl1)).trans (hf1 o)
          have hW2 : w.heap.size < W.heap.size := by omega
          have hW3 : w.heap.size + 1 < W.heap.size := by omega
          clear hk0 hf0 hk1 hf1
          go_region_held3 (fun w2 => w2.cell? ⟨w.heap.size, 0, none⟩ = some (.int .i64 a) ∧ w2.cell? ⟨w.heap.size, 1, none⟩ = some (.int .i64 b)) (exact ⟨cell_later (w := W) (by repeat' (first | exact Below.refl _ _ | (refine Below.alloc ?_ ?_ _) | (refine Below.setCell ?_ ?_ _) | (refine Below.drew ?_) | (refine below_next ?_ ?_ (by assumption)) | omega | (simp; done) | (simp; omega))) (by simpa using hk2 0), cell_later (w := W) (by repeat' (first | exact Below.refl _ _ | (refine Below.alloc ?_ ?_ _) | (refine Below.setCell ?_ ?_ _) | (refine Below.drew ?_) | (refine below_next ?_ ?_ (by assumption)) | omega | (simp; done) | (simp; omega))) (by simpa using hk2 1)⟩) (first | (go_at_call 29; refine (wrap_c _ _ _).mono ?_; rintro e w' ⟨rfl, rfl⟩))
          all_goals go_wp2
          all_goals (exact bodyPost_ret (v := .agg #[.int .i64 (minT t), .int .i64 (maxT t)]) (by simp [results, Try.results8, go_sem, *]) rfl ⟨rfl, (by repeat' (first | exact Below.refl _ _ | (refine Below.alloc ?_ ?_ _) | (refine Below.setCell ?_ ?_ _) | (refine Below.drew ?_) | (refine below_next ?_ ?_ (by assumption)) | omega | (simp; done) | (simp; omega)))⟩)
    · have eo : ofI t = (1, 0) := by simp [ofI, ht]
      have HO : ∀ W : World, Calls Try.prog 12 #[.int .i64 t] W fun e w' => e = .returned (.agg #[.int .i64 1, .int .i64 0]) ∧ Below W.heap.size W w' := by
        have := itvOf_c t
        rw [eo] at this
        exact this
      have e0 : wrapI t a b = (1, 0) := by simp [wrapI, ht]
      rw [e0]
      clear e0 eo h ht
      go_enter Try.func8, Try.ntmps8
      go_wp2_with (first | (go_at_call 12; refine (HO _).mono ?_; rintro e w' ⟨rfl, hb⟩; have hbz := hb.size; (try simp at hbz); have hk0 := fun (o : Nat) => hb.cell (p := ⟨w.heap.size, o, none⟩) (by first | (simp; done) | (simp; omega)); have hf0 := fun (o : Nat) => hb.frozen (p := ⟨w.heap.size, o, none⟩) (by first | (simp; done) | (simp; omega)); (try simp [go_sem] at hk0 hf0); have hl0 : w.heap.size < w'.heap.size := (by omega); have hlj0 : ∀ j : Nat, w.heap.size < w'.heap.size + j := (fun _ => by omega); have hljk0 : ∀ j k : Nat, w.heap.size < w'.heap.size + j + k := (fun _ _ => by omega); have hljkl0 : ∀ j k l : Nat, w.heap.size < w'.heap.size + j + k + l := (fun _ _ _ => by omega); have hk1 := fun (o : Nat) => hb.cell (p := ⟨w.heap.size + 1, o, none⟩) (by first | (simp; done) | (simp; omega)); have hf1 := fun (o : Nat) => hb.frozen (p := ⟨w.heap.size + 1, o, none⟩) (by first | (simp; done) | (simp; omega)); (try simp [go_sem] at hk1 hf1); have hl1 : w.heap.size + 1 < w'.heap.size := (by omega); have hlj1 : ∀ j : Nat, w.heap.size + 1 < w'.heap.size + j := (fun _ => by omega); have hljk1 : ∀ j k : Nat, w.heap.size + 1 < w'.heap.size + j + k := (fun _ _ => by omega); have hljkl1 : ∀ j k l : Nat, w.heap.size + 1 < w'.heap.size + j + k + l := (fun _ _ _ => by omega)) | (go_at_call 17; refine (itvEmpty_x _ _ _).mono ?_; rintro e w' ⟨rfl, rfl⟩) | (go_at_call 28; refine (itvNone_c _).mono ?_; rintro e w' ⟨rfl, hb⟩; have hbz := hb.size; (try simp at hbz); have hk0 := fun (o : Nat) => hb.cell (p := ⟨w.heap.size, o, none⟩) (by first | (simp; done) | (simp; omega)); have hf0 := fun (o : Nat) => hb.frozen (p := ⟨w.heap.size, o, none⟩) (by first | (simp; done) | (simp; omega)); (try simp [go_sem] at hk0 hf0); have hl0 : w.heap.size < w'.heap.size := (by omega); have hlj0 : ∀ j : Nat, w.heap.size < w'.heap.size + j := (fun _ => by omega); have hljk0 : ∀ j k : Nat, w.heap.size < w'.heap.size + j + k := (fun _ _ => by omega); have hljkl0 : ∀ j k l : Nat, w.heap.size < w'.heap.size + j + k + l := (fun _ _ _ => by omega); have hk1 := fun (o : Nat) => hb.cell (p := ⟨w.heap.size + 1, o, none⟩) (by first | (simp; done) | (simp; omega)); have hf1 := fun (o : Nat) => hb.frozen (p := ⟨w.heap.size + 1, o, none⟩) (by first | (simp; done) | (simp; omega)); (try simp [go_sem] at hk1 hf1); have hl1 : w.heap.size + 1 < w'.heap.size := (by omega); have hlj1 : ∀ j : Nat, w.heap.size + 1 < w'.heap.size + j := (fun _ => by omega); have hljk1 : ∀ j k : Nat, w.heap.size + 1 < w'.heap.size + j + k := (fun _ _ => by omega); have hljkl1 : ∀ j k l : Nat, w.heap.size + 1 < w'.heap.size + j + k + l := (fun _ _ _ => by omega)))
      exact bodyPost_ret (v := .agg #[.int .i64 1, .int .i64 0]) (by simp [results, Try.results8, go_sem, *]) rfl ⟨rfl, (by repeat' (first | exact Below.refl _ _ | (refine Below.alloc ?_ ?_ _) | (refine Below.setCell ?_ ?_ _) | (refine Below.drew ?_) | (refine below_next ?_ ?_ (by assumption)) | omega | (simp; done) | (simp; omega)))⟩
end Go.Proofs.Ythfglfhenpigjaa.C
