/- ItvAll: walk. -/
import Derived.Test.YtjimfbkmfajkcabLaw14
import Derived.Test.YtjimfbkmfajkcabRefItv
import Derived.BigFrame
import Derived.BigGuard
import Derived.Deep.CutBlock
import Derived.Lib.Hide
namespace Go.Proofs.Ytjimfbkmfajkcab.C
open Go.RowKit
set_option linter.unusedSimpArgs false
set_option linter.unusedVariables false
attribute [local go_sem] fieldItv0 fieldItv1
def fineI (a b : Int) : Bool := decide (-1152921504606846976 ≤ a ∧ a ≤ 1152921504606846976 ∧ -1152921504606846976 ≤ b ∧ b ≤ 1152921504606846976)
theorem fine_c (a b : Int) (w : World) : Calls Try.prog 29 #[.agg #[.int .i64 a, .int .i64 b]] w fun e w' => e = .returned (.bool (fineI a b)) ∧ Below w.heap.size w w' := by
  by_cases h1 : -1152921504606846976 ≤ a
  · have g1 : decide (-1152921504606846976 ≤ a) = true := decide_eq_true h1
    by_cases h2 : a ≤ 1152921504606846976
    · have g2 : decide (a ≤ 1152921504606846976) = true := decide_eq_true h2
      by_cases h3 : -1152921504606846976 ≤ b
      · have g3 : decide (-1152921504606846976 ≤ b) = true := decide_eq_true h3
        have e0 : fineI a b = decide (b ≤ 1152921504606846976) := by simp [fineI, h1, h2, h3]
        rw [e0]
        clear e0 h1 h2 h3
        go_enter Try.func29, Try.ntmps29
        go_wp2
        go_ret
        exact ⟨rfl, (by repeat' (first | exact Below.refl _ _ | (refine Below.alloc ?_ ?_ _) | (refine Below.setCell ?_ ?_ _) | (refine Below.drew ?_) | (refine below_next ?_ ?_ (by assumption)) | omega | (simp; done) | (simp; omega)))⟩
      · have g3 : decide (-1152921504606846976 ≤ b) = false := decide_eq_false h3
        have e0 : fineI a b = false := by simp [fineI, h3]
        rw [e0]
        clear e0 h1 h2 h3
        go_enter Try.func29, Try.ntmps29
        go_wp2
        go_ret
        exact ⟨rfl, (by repeat' (first | exact Below.refl _ _ | (refine Below.alloc ?_ ?_ _) | (refine Below.setCell ?_ ?_ _) | (refine Below.drew ?_) | (refine below_next ?_ ?_ (by assumption)) | omega | (simp; done) | (simp; omega)))⟩
    · have g2 : decide (a ≤ 1152921504606846976) = false := decide_eq_false h2
      have e0 : fineI a b = false := by simp [fineI, h2]
      rw [e0]
      clear e0 h1 h2
      go_enter Try.func29, Try.ntmps29
      go_wp2
      go_ret
      exact ⟨rfl, (by repeat' (first | exact Below.refl _ _ | (refine Below.alloc ?_ ?_ _) | (refine Below.setCell ?_ ?_ _) | (refine Below.drew ?_) | (refine below_next ?_ ?_ (by assumption)) | omega | (simp; done) | (simp; omega)))⟩
  · have g1 : decide (-1152921504606846976 ≤ a) = false := decide_eq_false h1
    have e0 : fineI a b = false := by simp [fineI, h1]
    rw [e0]
    clear e0 h1
    go_enter Try.func29, Try.ntmps29
    go_wp2
    go_ret
    exact ⟨rfl, (by repeat' (first | exact Below.refl _ _ | (refine Below.alloc ?_ ?_ _) | (refine Below.setCell ?_ ?_ _) | (refine Below.drew ?_) | (refine below_next ?_ ?_ (by assumption)) | omega | (simp; done) | (simp; omega)))⟩
set_option maxRecDepth 100000 in
set_option maxHeartbeats 6400000 in
theorem itvAll_c (a b c d t v : Int) (w : World) : Calls Try.prog 5 #[.agg #[.int .i64 a, .int .i64 b], .agg #[.int .i64 c, .int .i64 d], .int .i64 t, .int .i64 v] w fun e w' => e = .returned (.bool true) ∧ Below w.heap.size w w' := by
  obtain ⟨f1, hf1⟩ : ∃ x, fineI a b = x := ⟨_, rfl⟩
  obtain ⟨f2, hf2⟩ : ∃ x, fineI c d = x := ⟨_, rfl⟩
  have F1 : ∀ W : World, Calls Try.prog 29 #[.agg #[.int .i64 a, .int .i64 b]] W fun e w' => e = .returned (.bool f1) ∧ Below W.heap.size W w' := by rw [← hf1]; exact fine_c a b
  have F2 : ∀ W : World, Calls Try.prog 29 #[.agg #[.int .i64 c, .int .i64 d]] W fun e w' => e = .returned (.bool f2) ∧ Below W.heap.size W w' := by rw [← hf2]; exact fine_c c d
  cases f1 with
  | false =>
    clear hf1 hf2
    go_enter Try.func5, Try.ntmps5
    go_upto_region 1 with fail
    refine at_world (fun W => Hid (Below w.heap.size w W) ∧ w.heap.size + 1 < W.heap.size ∧ (∀ o, W.cell? ⟨w.heap.size, o, none⟩ = [Value.int .i64 a, Value.int .i64 b][o]?) ∧ (∀ o, W.cell? ⟨w.heap.size + 1, o, none⟩ = [Value.int .i64 c, Value.int .i64 d][o]?)) ⟨Lib.hid (by repeat' (first | exact Below.refl _ _ | (refine Below.alloc ?_ ?_ _) | (refine Below.setCell ?_ ?_ _) | (refine Below.drew ?_) | (refine below_next ?_ ?_ (by assumption)) | omega | (simp; done) | (simp; omega))), (by simp), (by intro o; simp [go_sem]), (by intro o; simp [go_sem])⟩ ?_
    rintro W ⟨HB, hs, k0, k1⟩
    go_wp2_with (first | (go_at_call 29; refine (F1 _).mono ?_; rintro e w' ⟨rfl, hb⟩; have hbz := hb.size; replace k0 := fun (o : Nat) => (hb.cell (p := ⟨w.heap.size, o, none⟩) (show w.heap.size < _ from by omega)).trans (k0 o); replace k1 := fun (o : Nat) => (hb.cell (p := ⟨w.heap.size + 1, o, none⟩) (show w.heap.size + 1 < _ from by omega)).trans (k1 o); replace hs := Nat.lt_of_lt_of_le hs hbz; replace HB := Lib.hid (below_next HB.out HB.out.size hb); clear hb hbz) | (go_at_call 23; refine (awake14_c _).mono ?_; rintro e w' ⟨rfl, hb⟩; have hbz := hb.size; replace k0 := fun (o : Nat) => (hb.cell (p := ⟨w.heap.size, o, none⟩) (show w.heap.size < _ from by omega)).trans (k0 o); replace k1 := fun (o : Nat) => (hb.cell (p := ⟨w.heap.size + 1, o, none⟩) (show w.heap.size + 1 < _ from by omega)).trans (k1 o); replace hs := Nat.lt_of_lt_of_le hs hbz; replace HB := Lib.hid (below_next HB.out HB.out.size hb); clear hb hbz))
    go_ret
    exact ⟨rfl, HB.out⟩
  | true =>
    cases f2 with
    | false =>
      clear hf1 hf2
      go_enter Try.func5, Try.ntmps5
      go_upto_region 1 with fail
      refine at_world (fun W => Hid (Below w.heap.size w W) ∧ w.heap.size + 1 < W.heap.size ∧ (∀ o, W.cell? ⟨w.heap.size, o, none⟩ = [Value.int .i64 a, Value.int .i64 b][o]?) ∧ (∀ o, W.cell? ⟨w.heap.size + 1, o, none⟩ = [Value.int .i64 c, Value.int .i64 d][o]?)) ⟨Lib.hid (by repeat' (first | exact Below.refl _ _ | (refine Below.alloc ?_ ?_ _) | (refine Below.setCell ?_ ?_ _) | (refine Below.drew ?_) | (refine below_next ?_ ?_ (by assumption)) | omega | (simp; done) | (simp; omega))), (by simp), (by intro o; simp [go_sem]), (by intro o; simp [go_sem])⟩ ?_
      rintro W ⟨HB, hs, k0, k1⟩
      go_wp2_with (first | (with_reducible (go_at_call 29; refine (F1 _).mono ?_; rintro e w' ⟨rfl, hb⟩; have hbz := hb.size; replace k0 := fun (o : Nat) => (hb.cell (p := ⟨w.heap.size, o, none⟩) (show w.heap.size < _ from by omega)).trans (k0 o); replace k1 := fun (o : Nat) => (hb.cell (p := ⟨w.heap.size + 1, o, none⟩) (show w.heap.size + 1 < _ from by omega)).trans (k1 o); replace hs := Nat.lt_of_lt_of_le hs hbz; replace HB := Lib.hid (below_next HB.out HB.out.size hb); clear hb hbz)) | (with_reducible (go_at_call 29; refine (F2 _).mono ?_; rintro e w' ⟨rfl, hb⟩; have hbz := hb.size; replace k0 := fun (o : Nat) => (hb.cell (p := ⟨w.heap.size, o, none⟩) (show w.heap.size < _ from by omega)).trans (k0 o); replace k1 := fun (o : Nat) => (hb.cell (p := ⟨w.heap.size + 1, o, none⟩) (show w.heap.size + 1 < _ from by omega)).trans (k1 o); replace hs := Nat.lt_of_lt_of_le hs hbz; replace HB := Lib.hid (below_next HB.out HB.out.size hb); clear hb hbz)) | (go_at_call 23; refine (awake14_c _).mono ?_; rintro e w' ⟨rfl, hb⟩; have hbz := hb.size; replace k0 := fun (o : Nat) => (hb.cell (p := ⟨w.heap.size, o, none⟩) (show w.heap.size < _ from by omega)).trans (k0 o); replace k1 := fun (o : Nat) => (hb.cell (p := ⟨w.heap.size + 1, o, none⟩) (show w.heap.size + 1 < _ from by omega)).trans (k1 o); replace hs := Nat.lt_of_lt_of_le hs hbz; replace HB := Lib.hid (below_next HB.out HB.out.size hb); clear hb hbz))
      go_ret
      exact ⟨rfl, HB.out⟩
    | true =>
      have b1 : -1152921504606846976 ≤ a ∧ a ≤ 1152921504606846976 ∧ -1152921504606846976 ≤ b ∧ b ≤ 1152921504606846976 := of_decide_eq_true hf1
      obtain ⟨b11, b12, b13, b14⟩ := b1
      obtain ⟨x1, y1, C1, R1⟩ : ∃ x y : Int, (∀ W : World, Calls Try.prog 28 #[.int .i64 t] W fun e w' => e = .returned (.agg #[.int .i64 x, .int .i64 y]) ∧ Below W.heap.size W w') ∧ (∀ W : World, Calls Try.prog 30 #[.int .i64 t] W fun e w' => e = .returned (.agg #[.int .i64 x, .int .i64 y]) ∧ Below W.heap.size W w') := ⟨_, _, itvOf_c t, riOf_c t⟩
      obtain ⟨x2, C2, R2⟩ : ∃ x : Bool, (∀ W : World, Calls Try.prog 31 #[.agg #[.int .i64 a, .int .i64 b]] W fun e w' => e = .returned (.bool x) ∧ Below W.heap.size W w') ∧ (∀ W : World, Calls Try.prog 32 #[.agg #[.int .i64 a, .int .i64 b]] W fun e w' => e = .returned (.bool x) ∧ Below W.heap.size W w') := ⟨_, itvEmpty_c a b, fun W => (riEmpty_x a b W).mono fun e w' ⟨h1, h2⟩ => ⟨h1, by rw [← h2]; exact (Below.refl _ _).alloc (Nat.le_refl _) _⟩⟩
      obtain ⟨x3, C3, R3⟩ : ∃ x : Bool, (∀ W : World, Calls Try.prog 33 #[.agg #[.int .i64 a, .int .i64 b], .int .i64 v] W fun e w' => e = .returned (.bool x) ∧ Below W.heap.size W w') ∧ (∀ W : World, Calls Try.prog 34 #[.agg #[.int .i64 a, .int .i64 b], .int .i64 v] W fun e w' => e = .returned (.bool x) ∧ Below W.heap.size W w') := ⟨_, itvHas_c a b v, riHas_c a b v⟩
      obtain ⟨x4, C4, R4⟩ : ∃ x : Bool, (∀ W : World, Calls Try.prog 27 #[.agg #[.int .i64 a, .int .i64 b], .agg #[.int .i64 c, .int .i64 d]] W fun e w' => e = .returned (.bool x) ∧ Below W.heap.size W w') ∧ (∀ W : World, Calls Try.prog 35 #[.agg #[.int .i64 a, .int .i64 b], .agg #[.int .i64 c, .int .i64 d]] W fun e w' => e = .returned (.bool x) ∧ Below W.heap.size W w') := ⟨_, itvLe_c a b c d, riLe_c a b c d⟩
      obtain ⟨x5, y5, C5, R5⟩ : ∃ x y : Int, (∀ W : World, Calls Try.prog 25 #[.agg #[.int .i64 a, .int .i64 b], .agg #[.int .i64 c, .int .i64 d]] W fun e w' => e = .returned (.agg #[.int .i64 x, .int .i64 y]) ∧ Below W.heap.size W w') ∧ (∀ W : World, Calls Try.prog 36 #[.agg #[.int .i64 a, .int .i64 b], .agg #[.int .i64 c, .int .i64 d]] W fun e w' => e = .returned (.agg #[.int .i64 x, .int .i64 y]) ∧ Below W.heap.size W w') := ⟨_, _, itvJoin_c a b c d, riJoin_c a b c d⟩
      obtain ⟨x6, y6, C6, R6⟩ : ∃ x y : Int, (∀ W : World, Calls Try.prog 37 #[.agg #[.int .i64 a, .int .i64 b], .agg #[.int .i64 c, .int .i64 d]] W fun e w' => e = .returned (.agg #[.int .i64 x, .int .i64 y]) ∧ Below W.heap.size W w') ∧ (∀ W : World, Calls Try.prog 38 #[.agg #[.int .i64 a, .int .i64 b], .agg #[.int .i64 c, .int .i64 d]] W fun e w' => e = .returned (.agg #[.int .i64 x, .int .i64 y]) ∧ Below W.heap.size W w') := ⟨_, _, itvMeet_c a b c d, riMeet_c a b c d⟩
      obtain ⟨x7, y7, C7, R7⟩ : ∃ x y : Int, (∀ W : World, Calls Try.prog 26 #[.agg #[.int .i64 a, .int .i64 b], .agg #[.int .i64 c, .int .i64 d], .int .i64 t] W fun e w' => e = .returned (.agg #[.int .i64 x, .int .i64 y]) ∧ Below W.heap.size W w') ∧ (∀ W : World, Calls Try.prog 39 #[.agg #[.int .i64 a, .int .i64 b], .agg #[.int .i64 c, .int .i64 d], .int .i64 t] W fun e w' => e = .returned (.agg #[.int .i64 x, .int .i64 y]) ∧ Below W.heap.size W w') := ⟨_, _, itvWiden_c a b c d t, riWiden_c a b c d t⟩
      obtain ⟨x8, y8, C8, R8⟩ : ∃ x y : Int, (∀ W : World, Calls Try.prog 40 #[.int .i64 t, .agg #[.int .i64 a, .int .i64 b]] W fun e w' => e = .returned (.agg #[.int .i64 x, .int .i64 y]) ∧ Below W.heap.size W w') ∧ (∀ W : World, Calls Try.prog 41 #[.int .i64 t, .agg #[.int .i64 a, .int .i64 b]] W fun e w' => e = .returned (.agg #[.int .i64 x, .int .i64 y]) ∧ Below W.heap.size W w') := ⟨_, _, fun W => itvWrap_c t a b W (by omega) (by omega) (by omega) (by omega), fun W => riWrap_c t a b (by omega) (by omega) (by omega) (by omega) W⟩
      clear hf1 hf2 b11 b12 b13 b14
      go_enter Try.func5, Try.ntmps5
      go_upto_region 1 with fail
      refine at_world (fun W => Hid (Below w.heap.size w W) ∧ w.heap.size + 1 < W.heap.size ∧ (∀ o, W.cell? ⟨w.heap.size, o, none⟩ = [Value.int .i64 a, Value.int .i64 b][o]?) ∧ (∀ o, W.cell? ⟨w.heap.size + 1, o, none⟩ = [Value.int .i64 c, Value.int .i64 d][o]?)) ⟨Lib.hid (by repeat' (first | exact Below.refl _ _ | (refine Below.alloc ?_ ?_ _) | (refine Below.setCell ?_ ?_ _) | (refine Below.drew ?_) | (refine below_next ?_ ?_ (by assumption)) | omega | (simp; done) | (simp; omega))), (by simp), (by intro o; simp [go_sem]), (by intro o; simp [go_sem])⟩ ?_
      rintro W ⟨HB, hs, k0, k1⟩
      go_upto_region 3 with (first | (with_reducible (go_at_call 29; refine (F1 _).mono ?_; rintro e w' ⟨rfl, hb⟩; have hbz := hb.size; replace k0 := fun (o : Nat) => (hb.cell (p := ⟨w.heap.size, o, none⟩) (show w.heap.size < _ from by omega)).trans (k0 o); replace k1 := fun (o : Nat) => (hb.cell (p := ⟨w.heap.size + 1, o, none⟩) (show w.heap.size + 1 < _ from by omega)).trans (k1 o); replace hs := Nat.lt_of_lt_of_le hs hbz; replace HB := Lib.hid (below_next HB.out HB.out.size hb); clear hb hbz)) | (with_reducible (go_at_call 29; refine (F2 _).mono ?_; rintro e w' ⟨rfl, hb⟩; have hbz := hb.size; replace k0 := fun (o : Nat) => (hb.cell (p := ⟨w.heap.size, o, none⟩) (show w.heap.size < _ from by omega)).trans (k0 o); replace k1 := fun (o : Nat) => (hb.cell (p := ⟨w.heap.size + 1, o, none⟩) (show w.heap.size + 1 < _ from by omega)).trans (k1 o); replace hs := Nat.lt_of_lt_of_le hs hbz; replace HB := Lib.hid (below_next HB.out HB.out.size hb); clear hb hbz)))
      refine at_world (fun W => Hid (Below w.heap.size w W) ∧ w.heap.size + 1 < W.heap.size ∧ (∀ o, W.cell? ⟨w.heap.size, o, none⟩ = [Value.int .i64 a, Value.int .i64 b][o]?) ∧ (∀ o, W.cell? ⟨w.heap.size + 1, o, none⟩ = [Value.int .i64 c, Value.int .i64 d][o]?)) ⟨HB, hs, k0, k1⟩ ?_
      clear HB hs k0 k1
      rintro W2 ⟨HB, hs, k0, k1⟩
      have q0 := fun (x : WIn (Below W2.heap.size W2)) (o : Nat) => (x.h.cell (p := ⟨w.heap.size, o, none⟩) (show w.heap.size < _ from by omega)).trans (k0 o)
      have q1 := fun (x : WIn (Below W2.heap.size W2)) (o : Nat) => (x.h.cell (p := ⟨w.heap.size + 1, o, none⟩) (show w.heap.size + 1 < _ from by omega)).trans (k1 o)
      clear k0 k1
      refine region_in (Below W2.heap.size W2) (by kernel_rfl) (by kernel_rfl) (Below.refl _ _).drew (fun inst => ?_)
      try simp only [List.append_eq, List.cons_append, List.nil_append]
      repeat (go_big_quiet_step (first | (go_at_call 28; exact call_grow (Nat.le_refl _) (C1 _)) | (go_at_call 30; exact call_grow (Nat.le_refl _) (R1 _)) | (go_at_call 31; exact call_grow (Nat.le_refl _) (C2 _)) | (go_at_call 32; exact call_grow (Nat.le_refl _) (R2 _)) | (go_at_call 33; exact call_grow (Nat.le_refl _) (C3 _)) | (go_at_call 34; exact call_grow (Nat.le_refl _) (R3 _)) | (go_at_call 27; exact call_grow (Nat.le_refl _) (C4 _)) | (go_at_call 35; exact call_grow (Nat.le_refl _) (R4 _)) | (go_at_call 25; exact call_grow (Nat.le_refl _) (C5 _)) | (go_at_call 36; exact call_grow (Nat.le_refl _) (R5 _)) | (go_at_call 37; exact call_grow (Nat.le_refl _) (C6 _)) | (go_at_call 38; exact call_grow (Nat.le_refl _) (R6 _)) | (go_at_call 26; exact call_grow (Nat.le_refl _) (C7 _)) | (go_at_call 39; exact call_grow (Nat.le_refl _) (R7 _)) | (go_at_call 40; exact call_grow (Nat.le_refl _) (C8 _)) | (go_at_call 41; exact call_grow (Nat.le_refl _) (R8 _)) | (go_at_call 23; exact call_grow (Nat.le_refl _) (awake14_c _))))
      refine wpQuiet_nil ?_
      intro wd hbd
      go_wp2
      go_ret
      exact ⟨rfl, HB.out.trans (hbd.mono HB.out.size)⟩
end Go.Proofs.Ytjimfbkmfajkcab.C
