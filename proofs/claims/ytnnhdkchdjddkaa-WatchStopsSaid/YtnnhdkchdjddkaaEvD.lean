/- eval.node, its cases: walks (printed by gen_ev.py). -/
import Derived.Test.YtnnhdkchdjddkaaEvO
namespace Go.Proofs.Ytnnhdkchdjddkaa.C
open Go.RowKit
set_option linter.unusedSimpArgs false
set_option linter.unusedVariables false
/-- Inside node. -/
structure NdI (w W : World) (n : Ex) (v o : NV) (res t : Int) : Prop where
  hb : Below w.heap.size w W
  b6 : Bx6 W w.heap.size v o res t
  r4 : Bx4 W (w.heap.size + 1) ⟨0, 0, 0, 0⟩
  b7 : Bx7 W (w.heap.size + 1 + 1) 0 n
  fe : ∀ i, W.frozen? ⟨w.heap.size, i, none⟩ = false
theorem NdI.below {w W W' : World} {n : Ex} {v o : NV} {res t : Int} (h : NdI w W n v o res t) (hb : Below W.heap.size W W') : NdI w W' n v o res t :=
  ⟨below_next h.hb h.hb.size hb, h.b6.below hb, h.r4.below hb, h.b7.below hb, fun i => (hb.frozen (p := ⟨w.heap.size, i, none⟩) h.b6.lt).trans (h.fe i)⟩
/-- The kids' values lie at D3 (and at D4). -/
structure BnI (w W : World) (n : Ex) (v o : NV) (res t : Int) (D3 : Nat) (a : Gt) : Prop where
  nd : NdI w W n v o res t
  a4 : Bx4 W D3 a
  h3 : w.heap.size + 1 + 1 < D3
theorem BnI.below {w W W' : World} {n : Ex} {v o : NV} {res t : Int} {D3 : Nat} {a : Gt} (h : BnI w W n v o res t D3 a) (hb : Below W.heap.size W W') : BnI w W' n v o res t D3 a := ⟨h.nd.below hb, h.a4.below hb, h.h3⟩
set_option maxRecDepth 100000 in
set_option maxHeartbeats 6400000 in
theorem nd_num (n : Ex) (v o : NV) (res t : Int) (g len cc j : Nat) (w : World) (hj : j < len) (hE : Bx7 w g (j * 7) n) (hk : n.k = 1) :
    Calls Try.prog 20 #[.slice (some ⟨g, 0, none⟩) len cc, .int .i64 (j : Int), envA v o res t] w fun e' w' => e' = .returned (gtV (⟨n.num, n.t, 0, 0⟩)) ∧ Below w.heap.size w w' := by
  have HK : Hid (n.k = 1) := Lib.hid hk
  clear hk
  obtain ⟨mp, ba, bl, bc⟩ := v
  unfold envA
  have HE := Lib.hid hE
  have m0 := hE.c0
  have m1 := hE.c1
  have m2 := hE.c2
  have m3 := hE.c3
  have m4 := hE.c4
  have m5 := hE.c5
  have m6 := hE.c6
  have hj0 : (0 : Int) ≤ (j : Int) := by omega
  have hj1 : (j : Int) < (len : Int) := by omega
  have hg0 : g ≠ w.heap.size := by have := hE.lt; omega
  have hg1 : g ≠ w.heap.size + 1 := by have := hE.lt; omega
  clear hE
  simp only
  go_enter Try.func20, Try.ntmps20
  go_upto_region 1 with fail
  refine at_world (fun W => Below w.heap.size w W ∧ W.heap.size = w.heap.size + 1 + 1 ∧ Bx6 W w.heap.size ⟨mp, ba, bl, bc⟩ o res t ∧ Bx4 W (w.heap.size + 1) ⟨0, 0, 0, 0⟩ ∧ Bx7 W g (j * 7) n ∧ ∀ i, W.frozen? ⟨w.heap.size, i, none⟩ = false) ⟨(by repeat' (first | exact Below.refl _ _ | (refine Below.alloc ?_ ?_ _) | (refine Below.setCell ?_ ?_ _) | (refine Below.drew ?_) | (refine below_next ?_ ?_ (by assumption)) | omega | (simp; done) | (simp; omega))), by simp, ⟨by first | (simp; done) | (simp; omega), by simp [go_sem], by simp [go_sem], by simp [go_sem], by simp [go_sem], by simp [go_sem], by simp [go_sem]⟩, ⟨by first | (simp; done) | (simp; omega), by simp [go_sem], by simp [go_sem], by simp [go_sem], by simp [go_sem], by simp [go_sem], by simp [go_sem], by simp [go_sem], by simp [go_sem]⟩, HE.out.below (by repeat' (first | exact Below.refl _ _ | (refine Below.alloc ?_ ?_ _) | (refine Below.setCell ?_ ?_ _) | (refine Below.drew ?_) | (refine below_next ?_ ?_ (by assumption)) | omega | (simp; done) | (simp; omega))), by intro i; simp [go_sem]⟩ ?_
  rintro W0 ⟨hb0, hz0, B6, R4, BE, FE⟩
  clear m0 m1 m2 m3 m4 m5 m6
  have m0 := BE.c0
  have m1 := BE.c1
  have m2 := BE.c2
  have m3 := BE.c3
  have m4 := BE.c4
  have m5 := BE.c5
  have m6 := BE.c6
  go_upto_region 4 with fail
  refine at_world (fun W => NdI w W n ⟨mp, ba, bl, bc⟩ o res t) ⟨below_next hb0 hb0.size (by repeat' (first | exact Below.refl _ _ | (refine Below.alloc ?_ ?_ _) | (refine Below.setCell ?_ ?_ _) | (refine Below.drew ?_) | (refine below_next ?_ ?_ (by assumption)) | omega | (simp; done) | (simp; omega))), B6.below (by repeat' (first | exact Below.refl _ _ | (refine Below.alloc ?_ ?_ _) | (refine Below.setCell ?_ ?_ _) | (refine Below.drew ?_) | (refine below_next ?_ ?_ (by assumption)) | omega | (simp; done) | (simp; omega))), R4.below (by repeat' (first | exact Below.refl _ _ | (refine Below.alloc ?_ ?_ _) | (refine Below.setCell ?_ ?_ _) | (refine Below.drew ?_) | (refine below_next ?_ ?_ (by assumption)) | omega | (simp; done) | (simp; omega))), by rw [← hz0]; exact ⟨by first | (simp; done) | (simp; omega), by simp [go_sem], by simp [go_sem], by simp [go_sem], by simp [go_sem], by simp [go_sem], by simp [go_sem], by simp [go_sem]⟩, fun i => ((Below.frozen (B := W0.heap.size) (w := W0) (by repeat' (first | exact Below.refl _ _ | (refine Below.alloc ?_ ?_ _) | (refine Below.setCell ?_ ?_ _) | (refine Below.drew ?_) | (refine below_next ?_ ?_ (by assumption)) | omega | (simp; done) | (simp; omega))) (p := ⟨w.heap.size, i, none⟩) B6.lt)).trans (FE i)⟩ ?_
  intro W1 N1
  (try simp only [hz0])
  clear m0 m1 m2 m3 m4 m5 m6 hb0 hz0 B6 R4 BE FE
  have N := Lib.hid N1
  have n0 := (N1.b7).c0; have n1 : _ = _ := (N1.b7).box1; have n2 := (N1.b7).box2; have n3 := (N1.b7).box3; have n4 := (N1.b7).box4; have n5 := (N1.b7).box5; have n6 := (N1.b7).box6; have e0 := (N1.b6).c0; have e1 := (N1.b6).c1; have e2 := (N1.b6).c2; have e3 := (N1.b6).c3; have e4 := (N1.b6).c4; have e5 := (N1.b6).c5; have r0 := (N1.r4).c0; have r1 := (N1.r4).c1; have r2 := (N1.r4).c2; have r3 := (N1.r4).c3; have rf0 := (N1.r4).f0; have rf1 := (N1.r4).f1; have rf2 := (N1.r4).f2; have rf3 := (N1.r4).f3
  clear N1
  rw [HK.out] at n0
  go_wp2_with fail
  exact bodyPost_ret (v := gtV ⟨n.num, n.t, 0, 0⟩) (by simp [results, Try.results20, go_sem, r0, r1, r2, r3, rf0, rf1, rf2, rf3, gtV]) rfl ⟨rfl, set4 N.out.hb (by omega) _ _ _ _⟩
set_option maxRecDepth 100000 in
set_option maxHeartbeats 6400000 in
theorem nd_res (n : Ex) (v o : NV) (res t : Int) (g len cc j : Nat) (w : World) (hj : j < len) (hE : Bx7 w g (j * 7) n) (hk : n.k = 5) :
    Calls Try.prog 20 #[.slice (some ⟨g, 0, none⟩) len cc, .int .i64 (j : Int), envA v o res t] w fun e' w' => e' = .returned (gtV (⟨res, t, 0, 0⟩)) ∧ Below w.heap.size w w' := by
  have HK : Hid (n.k = 5) := Lib.hid hk
  clear hk
  obtain ⟨mp, ba, bl, bc⟩ := v
  unfold envA
  have HE := Lib.hid hE
  have m0 := hE.c0
  have m1 := hE.c1
  have m2 := hE.c2
  have m3 := hE.c3
  have m4 := hE.c4
  have m5 := hE.c5
  have m6 := hE.c6
  have hj0 : (0 : Int) ≤ (j : Int) := by omega
  have hj1 : (j : Int) < (len : Int) := by omega
  have hg0 : g ≠ w.heap.size := by have := hE.lt; omega
  have hg1 : g ≠ w.heap.size + 1 := by have := hE.lt; omega
  clear hE
  simp only
  go_enter Try.func20, Try.ntmps20
  go_upto_region 1 with fail
  refine at_world (fun W => Below w.heap.size w W ∧ W.heap.size = w.heap.size + 1 + 1 ∧ Bx6 W w.heap.size ⟨mp, ba, bl, bc⟩ o res t ∧ Bx4 W (w.heap.size + 1) ⟨0, 0, 0, 0⟩ ∧ Bx7 W g (j * 7) n ∧ ∀ i, W.frozen? ⟨w.heap.size, i, none⟩ = false) ⟨(by repeat' (first | exact Below.refl _ _ | (refine Below.alloc ?_ ?_ _) | (refine Below.setCell ?_ ?_ _) | (refine Below.drew ?_) | (refine below_next ?_ ?_ (by assumption)) | omega | (simp; done) | (simp; omega))), by simp, ⟨by first | (simp; done) | (simp; omega), by simp [go_sem], by simp [go_sem], by simp [go_sem], by simp [go_sem], by simp [go_sem], by simp [go_sem]⟩, ⟨by first | (simp; done) | (simp; omega), by simp [go_sem], by simp [go_sem], by simp [go_sem], by simp [go_sem], by simp [go_sem], by simp [go_sem], by simp [go_sem], by simp [go_sem]⟩, HE.out.below (by repeat' (first | exact Below.refl _ _ | (refine Below.alloc ?_ ?_ _) | (refine Below.setCell ?_ ?_ _) | (refine Below.drew ?_) | (refine below_next ?_ ?_ (by assumption)) | omega | (simp; done) | (simp; omega))), by intro i; simp [go_sem]⟩ ?_
  rintro W0 ⟨hb0, hz0, B6, R4, BE, FE⟩
  clear m0 m1 m2 m3 m4 m5 m6
  have m0 := BE.c0
  have m1 := BE.c1
  have m2 := BE.c2
  have m3 := BE.c3
  have m4 := BE.c4
  have m5 := BE.c5
  have m6 := BE.c6
  go_upto_region 4 with fail
  refine at_world (fun W => NdI w W n ⟨mp, ba, bl, bc⟩ o res t) ⟨below_next hb0 hb0.size (by repeat' (first | exact Below.refl _ _ | (refine Below.alloc ?_ ?_ _) | (refine Below.setCell ?_ ?_ _) | (refine Below.drew ?_) | (refine below_next ?_ ?_ (by assumption)) | omega | (simp; done) | (simp; omega))), B6.below (by repeat' (first | exact Below.refl _ _ | (refine Below.alloc ?_ ?_ _) | (refine Below.setCell ?_ ?_ _) | (refine Below.drew ?_) | (refine below_next ?_ ?_ (by assumption)) | omega | (simp; done) | (simp; omega))), R4.below (by repeat' (first | exact Below.refl _ _ | (refine Below.alloc ?_ ?_ _) | (refine Below.setCell ?_ ?_ _) | (refine Below.drew ?_) | (refine below_next ?_ ?_ (by assumption)) | omega | (simp; done) | (simp; omega))), by rw [← hz0]; exact ⟨by first | (simp; done) | (simp; omega), by simp [go_sem], by simp [go_sem], by simp [go_sem], by simp [go_sem], by simp [go_sem], by simp [go_sem], by simp [go_sem]⟩, fun i => ((Below.frozen (B := W0.heap.size) (w := W0) (by repeat' (first | exact Below.refl _ _ | (refine Below.alloc ?_ ?_ _) | (refine Below.setCell ?_ ?_ _) | (refine Below.drew ?_) | (refine below_next ?_ ?_ (by assumption)) | omega | (simp; done) | (simp; omega))) (p := ⟨w.heap.size, i, none⟩) B6.lt)).trans (FE i)⟩ ?_
  intro W1 N1
  (try simp only [hz0])
  clear m0 m1 m2 m3 m4 m5 m6 hb0 hz0 B6 R4 BE FE
  have N := Lib.hid N1
  have n0 := (N1.b7).c0; have n1 : _ = _ := (N1.b7).box1; have n2 := (N1.b7).box2; have n3 := (N1.b7).box3; have n4 := (N1.b7).box4; have n5 := (N1.b7).box5; have n6 := (N1.b7).box6; have e0 := (N1.b6).c0; have e1 := (N1.b6).c1; have e2 := (N1.b6).c2; have e3 := (N1.b6).c3; have e4 := (N1.b6).c4; have e5 := (N1.b6).c5; have r0 := (N1.r4).c0; have r1 := (N1.r4).c1; have r2 := (N1.r4).c2; have r3 := (N1.r4).c3; have rf0 := (N1.r4).f0; have rf1 := (N1.r4).f1; have rf2 := (N1.r4).f2; have rf3 := (N1.r4).f3
  clear N1
  rw [HK.out] at n0
  go_wp2_with fail
  exact bodyPost_ret (v := gtV ⟨res, t, 0, 0⟩) (by simp [results, Try.results20, go_sem, r0, r1, r2, r3, rf0, rf1, rf2, rf3, gtV]) rfl ⟨rfl, set4 N.out.hb (by omega) _ _ _ _⟩
set_option maxRecDepth 100000 in
set_option maxHeartbeats 6400000 in
theorem nd_var (n : Ex) (v o : NV) (res t : Int) (g len cc j : Nat) (w : World) (hj : j < len) (hE : Bx7 w g (j * 7) n) (hk : n.k = 2) (q : Gt) (NC : ∀ W, Below w.heap.size w W → Calls Try.prog 28 #[exA n, envA v o res t, .int .i64 0] W fun e' w' => e' = .returned (gtV q) ∧ Below W.heap.size W w') :
    Calls Try.prog 20 #[.slice (some ⟨g, 0, none⟩) len cc, .int .i64 (j : Int), envA v o res t] w fun e' w' => e' = .returned (gtV (q)) ∧ Below w.heap.size w w' := by
  have HK : Hid (n.k = 2) := Lib.hid hk
  clear hk
  unfold exA envA gtV at NC
  obtain ⟨mp, ba, bl, bc⟩ := v
  unfold envA
  simp only at NC
  have HE := Lib.hid hE
  have m0 := hE.c0
  have m1 := hE.c1
  have m2 := hE.c2
  have m3 := hE.c3
  have m4 := hE.c4
  have m5 := hE.c5
  have m6 := hE.c6
  have hj0 : (0 : Int) ≤ (j : Int) := by omega
  have hj1 : (j : Int) < (len : Int) := by omega
  have hg0 : g ≠ w.heap.size := by have := hE.lt; omega
  have hg1 : g ≠ w.heap.size + 1 := by have := hE.lt; omega
  clear hE
  simp only
  go_enter Try.func20, Try.ntmps20
  go_upto_region 1 with fail
  refine at_world (fun W => Below w.heap.size w W ∧ W.heap.size = w.heap.size + 1 + 1 ∧ Bx6 W w.heap.size ⟨mp, ba, bl, bc⟩ o res t ∧ Bx4 W (w.heap.size + 1) ⟨0, 0, 0, 0⟩ ∧ Bx7 W g (j * 7) n ∧ ∀ i, W.frozen? ⟨w.heap.size, i, none⟩ = false) ⟨(by repeat' (first | exact Below.refl _ _ | (refine Below.alloc ?_ ?_ _) | (refine Below.setCell ?_ ?_ _) | (refine Below.drew ?_) | (refine below_next ?_ ?_ (by assumption)) | omega | (simp; done) | (simp; omega))), by simp, ⟨by first | (simp; done) | (simp; omega), by simp [go_sem], by simp [go_sem], by simp [go_sem], by simp [go_sem], by simp [go_sem], by simp [go_sem]⟩, ⟨by first | (simp; done) | (simp; omega), by simp [go_sem], by simp [go_sem], by simp [go_sem], by simp [go_sem], by simp [go_sem], by simp [go_sem], by simp [go_sem], by simp [go_sem]⟩, HE.out.below (by repeat' (first | exact Below.refl _ _ | (refine Below.alloc ?_ ?_ _) | (refine Below.setCell ?_ ?_ _) | (refine Below.drew ?_) | (refine below_next ?_ ?_ (by assumption)) | omega | (simp; done) | (simp; omega))), by intro i; simp [go_sem]⟩ ?_
  rintro W0 ⟨hb0, hz0, B6, R4, BE, FE⟩
  clear m0 m1 m2 m3 m4 m5 m6
  have m0 := BE.c0
  have m1 := BE.c1
  have m2 := BE.c2
  have m3 := BE.c3
  have m4 := BE.c4
  have m5 := BE.c5
  have m6 := BE.c6
  go_upto_region 4 with fail
  refine at_world (fun W => NdI w W n ⟨mp, ba, bl, bc⟩ o res t) ⟨below_next hb0 hb0.size (by repeat' (first | exact Below.refl _ _ | (refine Below.alloc ?_ ?_ _) | (refine Below.setCell ?_ ?_ _) | (refine Below.drew ?_) | (refine below_next ?_ ?_ (by assumption)) | omega | (simp; done) | (simp; omega))), B6.below (by repeat' (first | exact Below.refl _ _ | (refine Below.alloc ?_ ?_ _) | (refine Below.setCell ?_ ?_ _) | (refine Below.drew ?_) | (refine below_next ?_ ?_ (by assumption)) | omega | (simp; done) | (simp; omega))), R4.below (by repeat' (first | exact Below.refl _ _ | (refine Below.alloc ?_ ?_ _) | (refine Below.setCell ?_ ?_ _) | (refine Below.drew ?_) | (refine below_next ?_ ?_ (by assumption)) | omega | (simp; done) | (simp; omega))), by rw [← hz0]; exact ⟨by first | (simp; done) | (simp; omega), by simp [go_sem], by simp [go_sem], by simp [go_sem], by simp [go_sem], by simp [go_sem], by simp [go_sem], by simp [go_sem]⟩, fun i => ((Below.frozen (B := W0.heap.size) (w := W0) (by repeat' (first | exact Below.refl _ _ | (refine Below.alloc ?_ ?_ _) | (refine Below.setCell ?_ ?_ _) | (refine Below.drew ?_) | (refine below_next ?_ ?_ (by assumption)) | omega | (simp; done) | (simp; omega))) (p := ⟨w.heap.size, i, none⟩) B6.lt)).trans (FE i)⟩ ?_
  intro W1 N1
  (try simp only [hz0])
  clear m0 m1 m2 m3 m4 m5 m6 hb0 hz0 B6 R4 BE FE
  have N := Lib.hid N1
  have n0 := (N1.b7).c0; have n1 : _ = _ := (N1.b7).box1; have n2 := (N1.b7).box2; have n3 := (N1.b7).box3; have n4 := (N1.b7).box4; have n5 := (N1.b7).box5; have n6 := (N1.b7).box6; have e0 := (N1.b6).c0; have e1 := (N1.b6).c1; have e2 := (N1.b6).c2; have e3 := (N1.b6).c3; have e4 := (N1.b6).c4; have e5 := (N1.b6).c5; have r0 := (N1.r4).c0; have r1 := (N1.r4).c1; have r2 := (N1.r4).c2; have r3 := (N1.r4).c3; have rf0 := (N1.r4).f0; have rf1 := (N1.r4).f1; have rf2 := (N1.r4).f2; have rf3 := (N1.r4).f3
  clear N1
  rw [HK.out] at n0
  rw [HK.out] at NC
  go_wp2_with (go_at_call 28; refine (NC _ N.out.hb).mono ?_; rintro e' w5 ⟨rfl, hb5⟩; have N := Lib.hid (N.out.below hb5); have r0 := (N.out.r4).c0; have r1 := (N.out.r4).c1; have r2 := (N.out.r4).c2; have r3 := (N.out.r4).c3; have rf0 := (N.out.r4).f0; have rf1 := (N.out.r4).f1; have rf2 := (N.out.r4).f2; have rf3 := (N.out.r4).f3; clear hb5 NC)
  exact bodyPost_ret (v := gtV q) (by simp [results, Try.results20, go_sem, r0, r1, r2, r3, rf0, rf1, rf2, rf3, gtV]) rfl ⟨rfl, set4 N.out.hb (by omega) _ _ _ _⟩
set_option maxRecDepth 100000 in
set_option maxHeartbeats 6400000 in
theorem nd_one3 (n : Ex) (v o : NV) (res t : Int) (g len cc j : Nat) (w : World) (hj : j < len) (hE : Bx7 w g (j * 7) n) (hk : n.k = 3) (q : Gt) (NC : ∀ W, Below w.heap.size w W → Calls Try.prog 29 #[.slice (some ⟨g, 0, none⟩) len cc, exA n, envA v o res t] W fun e' w' => e' = .returned (gtV q) ∧ Below W.heap.size W w') :
    Calls Try.prog 20 #[.slice (some ⟨g, 0, none⟩) len cc, .int .i64 (j : Int), envA v o res t] w fun e' w' => e' = .returned (gtV (q)) ∧ Below w.heap.size w w' := by
  have HK : Hid (n.k = 3) := Lib.hid hk
  clear hk
  unfold exA envA gtV at NC
  obtain ⟨mp, ba, bl, bc⟩ := v
  unfold envA
  simp only at NC
  have HE := Lib.hid hE
  have m0 := hE.c0
  have m1 := hE.c1
  have m2 := hE.c2
  have m3 := hE.c3
  have m4 := hE.c4
  have m5 := hE.c5
  have m6 := hE.c6
  have hj0 : (0 : Int) ≤ (j : Int) := by omega
  have hj1 : (j : Int) < (len : Int) := by omega
  have hg0 : g ≠ w.heap.size := by have := hE.lt; omega
  have hg1 : g ≠ w.heap.size + 1 := by have := hE.lt; omega
  clear hE
  simp only
  go_enter Try.func20, Try.ntmps20
  go_upto_region 1 with fail
  refine at_world (fun W => Below w.heap.size w W ∧ W.heap.size = w.heap.size + 1 + 1 ∧ Bx6 W w.heap.size ⟨mp, ba, bl, bc⟩ o res t ∧ Bx4 W (w.heap.size + 1) ⟨0, 0, 0, 0⟩ ∧ Bx7 W g (j * 7) n ∧ ∀ i, W.frozen? ⟨w.heap.size, i, none⟩ = false) ⟨(by repeat' (first | exact Below.refl _ _ | (refine Below.alloc ?_ ?_ _) | (refine Below.setCell ?_ ?_ _) | (refine Below.drew ?_) | (refine below_next ?_ ?_ (by assumption)) | omega | (simp; done) | (simp; omega))), by simp, ⟨by first | (simp; done) | (simp; omega), by simp [go_sem], by simp [go_sem], by simp [go_sem], by simp [go_sem], by simp [go_sem], by simp [go_sem]⟩, ⟨by first | (simp; done) | (simp; omega), by simp [go_sem], by simp [go_sem], by simp [go_sem], by simp [go_sem], by simp [go_sem], by simp [go_sem], by simp [go_sem], by simp [go_sem]⟩, HE.out.below (by repeat' (first | exact Below.refl _ _ | (refine Below.alloc ?_ ?_ _) | (refine Below.setCell ?_ ?_ _) | (refine Below.drew ?_) | (refine below_next ?_ ?_ (by assumption)) | omega | (simp; done) | (simp; omega))), by intro i; simp [go_sem]⟩ ?_
  rintro W0 ⟨hb0, hz0, B6, R4, BE, FE⟩
  clear m0 m1 m2 m3 m4 m5 m6
  have m0 := BE.c0
  have m1 := BE.c1
  have m2 := BE.c2
  have m3 := BE.c3
  have m4 := BE.c4
  have m5 := BE.c5
  have m6 := BE.c6
  go_upto_region 4 with fail
  refine at_world (fun W => NdI w W n ⟨mp, ba, bl, bc⟩ o res t) ⟨below_next hb0 hb0.size (by repeat' (first | exact Below.refl _ _ | (refine Below.alloc ?_ ?_ _) | (refine Below.setCell ?_ ?_ _) | (refine Below.drew ?_) | (refine below_next ?_ ?_ (by assumption)) | omega | (simp; done) | (simp; omega))), B6.below (by repeat' (first | exact Below.refl _ _ | (refine Below.alloc ?_ ?_ _) | (refine Below.setCell ?_ ?_ _) | (refine Below.drew ?_) | (refine below_next ?_ ?_ (by assumption)) | omega | (simp; done) | (simp; omega))), R4.below (by repeat' (first | exact Below.refl _ _ | (refine Below.alloc ?_ ?_ _) | (refine Below.setCell ?_ ?_ _) | (refine Below.drew ?_) | (refine below_next ?_ ?_ (by assumption)) | omega | (simp; done) | (simp; omega))), by rw [← hz0]; exact ⟨by first | (simp; done) | (simp; omega), by simp [go_sem], by simp [go_sem], by simp [go_sem], by simp [go_sem], by simp [go_sem], by simp [go_sem], by simp [go_sem]⟩, fun i => ((Below.frozen (B := W0.heap.size) (w := W0) (by repeat' (first | exact Below.refl _ _ | (refine Below.alloc ?_ ?_ _) | (refine Below.setCell ?_ ?_ _) | (refine Below.drew ?_) | (refine below_next ?_ ?_ (by assumption)) | omega | (simp; done) | (simp; omega))) (p := ⟨w.heap.size, i, none⟩) B6.lt)).trans (FE i)⟩ ?_
  intro W1 N1
  (try simp only [hz0])
  clear m0 m1 m2 m3 m4 m5 m6 hb0 hz0 B6 R4 BE FE
  have N := Lib.hid N1
  have n0 := (N1.b7).c0; have n1 : _ = _ := (N1.b7).box1; have n2 := (N1.b7).box2; have n3 := (N1.b7).box3; have n4 := (N1.b7).box4; have n5 := (N1.b7).box5; have n6 := (N1.b7).box6; have e0 := (N1.b6).c0; have e1 := (N1.b6).c1; have e2 := (N1.b6).c2; have e3 := (N1.b6).c3; have e4 := (N1.b6).c4; have e5 := (N1.b6).c5; have r0 := (N1.r4).c0; have r1 := (N1.r4).c1; have r2 := (N1.r4).c2; have r3 := (N1.r4).c3; have rf0 := (N1.r4).f0; have rf1 := (N1.r4).f1; have rf2 := (N1.r4).f2; have rf3 := (N1.r4).f3
  clear N1
  rw [HK.out] at n0
  rw [HK.out] at NC
  go_wp2_with (go_at_call 29; refine (NC _ N.out.hb).mono ?_; rintro e' w5 ⟨rfl, hb5⟩; have N := Lib.hid (N.out.below hb5); have r0 := (N.out.r4).c0; have r1 := (N.out.r4).c1; have r2 := (N.out.r4).c2; have r3 := (N.out.r4).c3; have rf0 := (N.out.r4).f0; have rf1 := (N.out.r4).f1; have rf2 := (N.out.r4).f2; have rf3 := (N.out.r4).f3; clear hb5 NC)
  exact bodyPost_ret (v := gtV q) (by simp [results, Try.results20, go_sem, r0, r1, r2, r3, rf0, rf1, rf2, rf3, gtV]) rfl ⟨rfl, set4 N.out.hb (by omega) _ _ _ _⟩
set_option maxRecDepth 100000 in
set_option maxHeartbeats 6400000 in
theorem nd_one18 (n : Ex) (v o : NV) (res t : Int) (g len cc j : Nat) (w : World) (hj : j < len) (hE : Bx7 w g (j * 7) n) (hk : n.k = 18) (q : Gt) (NC : ∀ W, Below w.heap.size w W → Calls Try.prog 29 #[.slice (some ⟨g, 0, none⟩) len cc, exA n, envA v o res t] W fun e' w' => e' = .returned (gtV q) ∧ Below W.heap.size W w') :
    Calls Try.prog 20 #[.slice (some ⟨g, 0, none⟩) len cc, .int .i64 (j : Int), envA v o res t] w fun e' w' => e' = .returned (gtV (q)) ∧ Below w.heap.size w w' := by
  have HK : Hid (n.k = 18) := Lib.hid hk
  clear hk
  unfold exA envA gtV at NC
  obtain ⟨mp, ba, bl, bc⟩ := v
  unfold envA
  simp only at NC
  have HE := Lib.hid hE
  have m0 := hE.c0
  have m1 := hE.c1
  have m2 := hE.c2
  have m3 := hE.c3
  have m4 := hE.c4
  have m5 := hE.c5
  have m6 := hE.c6
  have hj0 : (0 : Int) ≤ (j : Int) := by omega
  have hj1 : (j : Int) < (len : Int) := by omega
  have hg0 : g ≠ w.heap.size := by have := hE.lt; omega
  have hg1 : g ≠ w.heap.size + 1 := by have := hE.lt; omega
  clear hE
  simp only
  go_enter Try.func20, Try.ntmps20
  go_upto_region 1 with fail
  refine at_world (fun W => Below w.heap.size w W ∧ W.heap.size = w.heap.size + 1 + 1 ∧ Bx6 W w.heap.size ⟨mp, ba, bl, bc⟩ o res t ∧ Bx4 W (w.heap.size + 1) ⟨0, 0, 0, 0⟩ ∧ Bx7 W g (j * 7) n ∧ ∀ i, W.frozen? ⟨w.heap.size, i, none⟩ = false) ⟨(by repeat' (first | exact Below.refl _ _ | (refine Below.alloc ?_ ?_ _) | (refine Below.setCell ?_ ?_ _) | (refine Below.drew ?_) | (refine below_next ?_ ?_ (by assumption)) | omega | (simp; done) | (simp; omega))), by simp, ⟨by first | (simp; done) | (simp; omega), by simp [go_sem], by simp [go_sem], by simp [go_sem], by simp [go_sem], by simp [go_sem], by simp [go_sem]⟩, ⟨by first | (simp; done) | (simp; omega), by simp [go_sem], by simp [go_sem], by simp [go_sem], by simp [go_sem], by simp [go_sem], by simp [go_sem], by simp [go_sem], by simp [go_sem]⟩, HE.out.below (by repeat' (first | exact Below.refl _ _ | (refine Below.alloc ?_ ?_ _) | (refine Below.setCell ?_ ?_ _) | (refine Below.drew ?_) | (refine below_next ?_ ?_ (by assumption)) | omega | (simp; done) | (simp; omega))), by intro i; simp [go_sem]⟩ ?_
  rintro W0 ⟨hb0, hz0, B6, R4, BE, FE⟩
  clear m0 m1 m2 m3 m4 m5 m6
  have m0 := BE.c0
  have m1 := BE.c1
  have m2 := BE.c2
  have m3 := BE.c3
  have m4 := BE.c4
  have m5 := BE.c5
  have m6 := BE.c6
  go_upto_region 4 with fail
  refine at_world (fun W => NdI w W n ⟨mp, ba, bl, bc⟩ o res t) ⟨below_next hb0 hb0.size (by repeat' (first | exact Below.refl _ _ | (refine Below.alloc ?_ ?_ _) | (refine Below.setCell ?_ ?_ _) | (refine Below.drew ?_) | (refine below_next ?_ ?_ (by assumption)) | omega | (simp; done) | (simp; omega))), B6.below (by repeat' (first | exact Below.refl _ _ | (refine Below.alloc ?_ ?_ _) | (refine Below.setCell ?_ ?_ _) | (refine Below.drew ?_) | (refine below_next ?_ ?_ (by assumption)) | omega | (simp; done) | (simp; omega))), R4.below (by repeat' (first | exact Below.refl _ _ | (refine Below.alloc ?_ ?_ _) | (refine Below.setCell ?_ ?_ _) | (refine Below.drew ?_) | (refine below_next ?_ ?_ (by assumption)) | omega | (simp; done) | (simp; omega))), by rw [← hz0]; exact ⟨by first | (simp; done) | (simp; omega), by simp [go_sem], by simp [go_sem], by simp [go_sem], by simp [go_sem], by simp [go_sem], by simp [go_sem], by simp [go_sem]⟩, fun i => ((Below.frozen (B := W0.heap.size) (w := W0) (by repeat' (first | exact Below.refl _ _ | (refine Below.alloc ?_ ?_ _) | (refine Below.setCell ?_ ?_ _) | (refine Below.drew ?_) | (refine below_next ?_ ?_ (by assumption)) | omega | (simp; done) | (simp; omega))) (p := ⟨w.heap.size, i, none⟩) B6.lt)).trans (FE i)⟩ ?_
  intro W1 N1
  (try simp only [hz0])
  clear m0 m1 m2 m3 m4 m5 m6 hb0 hz0 B6 R4 BE FE
  have N := Lib.hid N1
  have n0 := (N1.b7).c0; have n1 : _ = _ := (N1.b7).box1; have n2 := (N1.b7).box2; have n3 := (N1.b7).box3; have n4 := (N1.b7).box4; have n5 := (N1.b7).box5; have n6 := (N1.b7).box6; have e0 := (N1.b6).c0; have e1 := (N1.b6).c1; have e2 := (N1.b6).c2; have e3 := (N1.b6).c3; have e4 := (N1.b6).c4; have e5 := (N1.b6).c5; have r0 := (N1.r4).c0; have r1 := (N1.r4).c1; have r2 := (N1.r4).c2; have r3 := (N1.r4).c3; have rf0 := (N1.r4).f0; have rf1 := (N1.r4).f1; have rf2 := (N1.r4).f2; have rf3 := (N1.r4).f3
  clear N1
  rw [HK.out] at n0
  rw [HK.out] at NC
  go_wp2_with (go_at_call 29; refine (NC _ N.out.hb).mono ?_; rintro e' w5 ⟨rfl, hb5⟩; have N := Lib.hid (N.out.below hb5); have r0 := (N.out.r4).c0; have r1 := (N.out.r4).c1; have r2 := (N.out.r4).c2; have r3 := (N.out.r4).c3; have rf0 := (N.out.r4).f0; have rf1 := (N.out.r4).f1; have rf2 := (N.out.r4).f2; have rf3 := (N.out.r4).f3; clear hb5 NC)
  exact bodyPost_ret (v := gtV q) (by simp [results, Try.results20, go_sem, r0, r1, r2, r3, rf0, rf1, rf2, rf3, gtV]) rfl ⟨rfl, set4 N.out.hb (by omega) _ _ _ _⟩
set_option maxRecDepth 100000 in
set_option maxHeartbeats 6400000 in
theorem nd_one6 (n : Ex) (v o : NV) (res t : Int) (g len cc j : Nat) (w : World) (hj : j < len) (hE : Bx7 w g (j * 7) n) (hk : n.k = 6) (q : Gt) (NC : ∀ W, Below w.heap.size w W → Calls Try.prog 29 #[.slice (some ⟨g, 0, none⟩) len cc, exA n, envA v o res t] W fun e' w' => e' = .returned (gtV q) ∧ Below W.heap.size W w') :
    Calls Try.prog 20 #[.slice (some ⟨g, 0, none⟩) len cc, .int .i64 (j : Int), envA v o res t] w fun e' w' => e' = .returned (gtV (q)) ∧ Below w.heap.size w w' := by
  have HK : Hid (n.k = 6) := Lib.hid hk
  clear hk
  unfold exA envA gtV at NC
  obtain ⟨mp, ba, bl, bc⟩ := v
  unfold envA
  simp only at NC
  have HE := Lib.hid hE
  have m0 := hE.c0
  have m1 := hE.c1
  have m2 := hE.c2
  have m3 := hE.c3
  have m4 := hE.c4
  have m5 := hE.c5
  have m6 := hE.c6
  have hj0 : (0 : Int) ≤ (j : Int) := by omega
  have hj1 : (j : Int) < (len : Int) := by omega
  have hg0 : g ≠ w.heap.size := by have := hE.lt; omega
  have hg1 : g ≠ w.heap.size + 1 := by have := hE.lt; omega
  clear hE
  simp only
  go_enter Try.func20, Try.ntmps20
  go_upto_region 1 with fail
  refine at_world (fun W => Below w.heap.size w W ∧ W.heap.size = w.heap.size + 1 + 1 ∧ Bx6 W w.heap.size ⟨mp, ba, bl, bc⟩ o res t ∧ Bx4 W (w.heap.size + 1) ⟨0, 0, 0, 0⟩ ∧ Bx7 W g (j * 7) n ∧ ∀ i, W.frozen? ⟨w.heap.size, i, none⟩ = false) ⟨(by repeat' (first | exact Below.refl _ _ | (refine Below.alloc ?_ ?_ _) | (refine Below.setCell ?_ ?_ _) | (refine Below.drew ?_) | (refine below_next ?_ ?_ (by assumption)) | omega | (simp; done) | (simp; omega))), by simp, ⟨by first | (simp; done) | (simp; omega), by simp [go_sem], by simp [go_sem], by simp [go_sem], by simp [go_sem], by simp [go_sem], by simp [go_sem]⟩, ⟨by first | (simp; done) | (simp; omega), by simp [go_sem], by simp [go_sem], by simp [go_sem], by simp [go_sem], by simp [go_sem], by simp [go_sem], by simp [go_sem], by simp [go_sem]⟩, HE.out.below (by repeat' (first | exact Below.refl _ _ | (refine Below.alloc ?_ ?_ _) | (refine Below.setCell ?_ ?_ _) | (refine Below.drew ?_) | (refine below_next ?_ ?_ (by assumption)) | omega | (simp; done) | (simp; omega))), by intro i; simp [go_sem]⟩ ?_
  rintro W0 ⟨hb0, hz0, B6, R4, BE, FE⟩
  clear m0 m1 m2 m3 m4 m5 m6
  have m0 := BE.c0
  have m1 := BE.c1
  have m2 := BE.c2
  have m3 := BE.c3
  have m4 := BE.c4
  have m5 := BE.c5
  have m6 := BE.c6
  go_upto_region 4 with fail
  refine at_world (fun W => NdI w W n ⟨mp, ba, bl, bc⟩ o res t) ⟨below_next hb0 hb0.size (by repeat' (first | exact Below.refl _ _ | (refine Below.alloc ?_ ?_ _) | (refine Below.setCell ?_ ?_ _) | (refine Below.drew ?_) | (refine below_next ?_ ?_ (by assumption)) | omega | (simp; done) | (simp; omega))), B6.below (by repeat' (first | exact Below.refl _ _ | (refine Below.alloc ?_ ?_ _) | (refine Below.setCell ?_ ?_ _) | (refine Below.drew ?_) | (refine below_next ?_ ?_ (by assumption)) | omega | (simp; done) | (simp; omega))), R4.below (by repeat' (first | exact Below.refl _ _ | (refine Below.alloc ?_ ?_ _) | (refine Below.setCell ?_ ?_ _) | (refine Below.drew ?_) | (refine below_next ?_ ?_ (by assumption)) | omega | (simp; done) | (simp; omega))), by rw [← hz0]; exact ⟨by first | (simp; done) | (simp; omega), by simp [go_sem], by simp [go_sem], by simp [go_sem], by simp [go_sem], by simp [go_sem], by simp [go_sem], by simp [go_sem]⟩, fun i => ((Below.frozen (B := W0.heap.size) (w := W0) (by repeat' (first | exact Below.refl _ _ | (refine Below.alloc ?_ ?_ _) | (refine Below.setCell ?_ ?_ _) | (refine Below.drew ?_) | (refine below_next ?_ ?_ (by assumption)) | omega | (simp; done) | (simp; omega))) (p := ⟨w.heap.size, i, none⟩) B6.lt)).trans (FE i)⟩ ?_
  intro W1 N1
  (try simp only [hz0])
  clear m0 m1 m2 m3 m4 m5 m6 hb0 hz0 B6 R4 BE FE
  have N := Lib.hid N1
  have n0 := (N1.b7).c0; have n1 : _ = _ := (N1.b7).box1; have n2 := (N1.b7).box2; have n3 := (N1.b7).box3; have n4 := (N1.b7).box4; have n5 := (N1.b7).box5; have n6 := (N1.b7).box6; have e0 := (N1.b6).c0; have e1 := (N1.b6).c1; have e2 := (N1.b6).c2; have e3 := (N1.b6).c3; have e4 := (N1.b6).c4; have e5 := (N1.b6).c5; have r0 := (N1.r4).c0; have r1 := (N1.r4).c1; have r2 := (N1.r4).c2; have r3 := (N1.r4).c3; have rf0 := (N1.r4).f0; have rf1 := (N1.r4).f1; have rf2 := (N1.r4).f2; have rf3 := (N1.r4).f3
  clear N1
  rw [HK.out] at n0
  rw [HK.out] at NC
  go_wp2_with (go_at_call 29; refine (NC _ N.out.hb).mono ?_; rintro e' w5 ⟨rfl, hb5⟩; have N := Lib.hid (N.out.below hb5); have r0 := (N.out.r4).c0; have r1 := (N.out.r4).c1; have r2 := (N.out.r4).c2; have r3 := (N.out.r4).c3; have rf0 := (N.out.r4).f0; have rf1 := (N.out.r4).f1; have rf2 := (N.out.r4).f2; have rf3 := (N.out.r4).f3; clear hb5 NC)
  exact bodyPost_ret (v := gtV q) (by simp [results, Try.results20, go_sem, r0, r1, r2, r3, rf0, rf1, rf2, rf3, gtV]) rfl ⟨rfl, set4 N.out.hb (by omega) _ _ _ _⟩
set_option maxRecDepth 100000 in
set_option maxHeartbeats 6400000 in
theorem nd_one7 (n : Ex) (v o : NV) (res t : Int) (g len cc j : Nat) (w : World) (hj : j < len) (hE : Bx7 w g (j * 7) n) (hk : n.k = 7) (q : Gt) (NC : ∀ W, Below w.heap.size w W → Calls Try.prog 29 #[.slice (some ⟨g, 0, none⟩) len cc, exA n, envA v o res t] W fun e' w' => e' = .returned (gtV q) ∧ Below W.heap.size W w') :
    Calls Try.prog 20 #[.slice (some ⟨g, 0, none⟩) len cc, .int .i64 (j : Int), envA v o res t] w fun e' w' => e' = .returned (gtV (q)) ∧ Below w.heap.size w w' := by
  have HK : Hid (n.k = 7) := Lib.hid hk
  clear hk
  unfold exA envA gtV at NC
  obtain ⟨mp, ba, bl, bc⟩ := v
  unfold envA
  simp only at NC
  have HE := Lib.hid hE
  have m0 := hE.c0
  have m1 := hE.c1
  have m2 := hE.c2
  have m3 := hE.c3
  have m4 := hE.c4
  have m5 := hE.c5
  have m6 := hE.c6
  have hj0 : (0 : Int) ≤ (j : Int) := by omega
  have hj1 : (j : Int) < (len : Int) := by omega
  have hg0 : g ≠ w.heap.size := by have := hE.lt; omega
  have hg1 : g ≠ w.heap.size + 1 := by have := hE.lt; omega
  clear hE
  simp only
  go_enter Try.func20, Try.ntmps20
  go_upto_region 1 with fail
  refine at_world (fun W => Below w.heap.size w W ∧ W.heap.size = w.heap.size + 1 + 1 ∧ Bx6 W w.heap.size ⟨mp, ba, bl, bc⟩ o res t ∧ Bx4 W (w.heap.size + 1) ⟨0, 0, 0, 0⟩ ∧ Bx7 W g (j * 7) n ∧ ∀ i, W.frozen? ⟨w.heap.size, i, none⟩ = false) ⟨(by repeat' (first | exact Below.refl _ _ | (refine Below.alloc ?_ ?_ _) | (refine Below.setCell ?_ ?_ _) | (refine Below.drew ?_) | (refine below_next ?_ ?_ (by assumption)) | omega | (simp; done) | (simp; omega))), by simp, ⟨by first | (simp; done) | (simp; omega), by simp [go_sem], by simp [go_sem], by simp [go_sem], by simp [go_sem], by simp [go_sem], by simp [go_sem]⟩, ⟨by first | (simp; done) | (simp; omega), by simp [go_sem], by simp [go_sem], by simp [go_sem], by simp [go_sem], by simp [go_sem], by simp [go_sem], by simp [go_sem], by simp [go_sem]⟩, HE.out.below (by repeat' (first | exact Below.refl _ _ | (refine Below.alloc ?_ ?_ _) | (refine Below.setCell ?_ ?_ _) | (refine Below.drew ?_) | (refine below_next ?_ ?_ (by assumption)) | omega | (simp; done) | (simp; omega))), by intro i; simp [go_sem]⟩ ?_
  rintro W0 ⟨hb0, hz0, B6, R4, BE, FE⟩
  clear m0 m1 m2 m3 m4 m5 m6
  have m0 := BE.c0
  have m1 := BE.c1
  have m2 := BE.c2
  have m3 := BE.c3
  have m4 := BE.c4
  have m5 := BE.c5
  have m6 := BE.c6
  go_upto_region 4 with fail
  refine at_world (fun W => NdI w W n ⟨mp, ba, bl, bc⟩ o res t) ⟨below_next hb0 hb0.size (by repeat' (first | exact Below.refl _ _ | (refine Below.alloc ?_ ?_ _) | (refine Below.setCell ?_ ?_ _) | (refine Below.drew ?_) | (refine below_next ?_ ?_ (by assumption)) | omega | (simp; done) | (simp; omega))), B6.below (by repeat' (first | exact Below.refl _ _ | (refine Below.alloc ?_ ?_ _) | (refine Below.setCell ?_ ?_ _) | (refine Below.drew ?_) | (refine below_next ?_ ?_ (by assumption)) | omega | (simp; done) | (simp; omega))), R4.below (by repeat' (first | exact Below.refl _ _ | (refine Below.alloc ?_ ?_ _) | (refine Below.setCell ?_ ?_ _) | (refine Below.drew ?_) | (refine below_next ?_ ?_ (by assumption)) | omega | (simp; done) | (simp; omega))), by rw [← hz0]; exact ⟨by first | (simp; done) | (simp; omega), by simp [go_sem], by simp [go_sem], by simp [go_sem], by simp [go_sem], by simp [go_sem], by simp [go_sem], by simp [go_sem]⟩, fun i => ((Below.frozen (B := W0.heap.size) (w := W0) (by repeat' (first | exact Below.refl _ _ | (refine Below.alloc ?_ ?_ _) | (refine Below.setCell ?_ ?_ _) | (refine Below.drew ?_) | (refine below_next ?_ ?_ (by assumption)) | omega | (simp; done) | (simp; omega))) (p := ⟨w.heap.size, i, none⟩) B6.lt)).trans (FE i)⟩ ?_
  intro W1 N1
  (try simp only [hz0])
  clear m0 m1 m2 m3 m4 m5 m6 hb0 hz0 B6 R4 BE FE
  have N := Lib.hid N1
  have n0 := (N1.b7).c0; have n1 : _ = _ := (N1.b7).box1; have n2 := (N1.b7).box2; have n3 := (N1.b7).box3; have n4 := (N1.b7).box4; have n5 := (N1.b7).box5; have n6 := (N1.b7).box6; have e0 := (N1.b6).c0; have e1 := (N1.b6).c1; have e2 := (N1.b6).c2; have e3 := (N1.b6).c3; have e4 := (N1.b6).c4; have e5 := (N1.b6).c5; have r0 := (N1.r4).c0; have r1 := (N1.r4).c1; have r2 := (N1.r4).c2; have r3 := (N1.r4).c3; have rf0 := (N1.r4).f0; have rf1 := (N1.r4).f1; have rf2 := (N1.r4).f2; have rf3 := (N1.r4).f3
  clear N1
  rw [HK.out] at n0
  rw [HK.out] at NC
  go_wp2_with (go_at_call 29; refine (NC _ N.out.hb).mono ?_; rintro e' w5 ⟨rfl, hb5⟩; have N := Lib.hid (N.out.below hb5); have r0 := (N.out.r4).c0; have r1 := (N.out.r4).c1; have r2 := (N.out.r4).c2; have r3 := (N.out.r4).c3; have rf0 := (N.out.r4).f0; have rf1 := (N.out.r4).f1; have rf2 := (N.out.r4).f2; have rf3 := (N.out.r4).f3; clear hb5 NC)
  exact bodyPost_ret (v := gtV q) (by simp [results, Try.results20, go_sem, r0, r1, r2, r3, rf0, rf1, rf2, rf3, gtV]) rfl ⟨rfl, set4 N.out.hb (by omega) _ _ _ _⟩
set_option maxRecDepth 100000 in
set_option maxHeartbeats 6400000 in
theorem nd_old (n : Ex) (v o : NV) (res t : Int) (g len cc j : Nat) (w : World) (hj : j < len) (hE : Bx7 w g (j * 7) n) (hk : n.k = 4) (q : Gt) (NC : ∀ W, Below w.heap.size w W → Calls Try.prog 20 #[.slice (some ⟨g, 0, none⟩) len cc, .int .i64 n.a, envA o o res t] W fun e' w' => e' = .returned (gtV q) ∧ Below W.heap.size W w') :
    Calls Try.prog 20 #[.slice (some ⟨g, 0, none⟩) len cc, .int .i64 (j : Int), envA v o res t] w fun e' w' => e' = .returned (gtV (q)) ∧ Below w.heap.size w w' := by
  have HK : Hid (n.k = 4) := Lib.hid hk
  clear hk
  unfold envA gtV at NC
  obtain ⟨mp, ba, bl, bc⟩ := v
  unfold envA
  have HE := Lib.hid hE
  have m0 := hE.c0
  have m1 := hE.c1
  have m2 := hE.c2
  have m3 := hE.c3
  have m4 := hE.c4
  have m5 := hE.c5
  have m6 := hE.c6
  have hj0 : (0 : Int) ≤ (j : Int) := by omega
  have hj1 : (j : Int) < (len : Int) := by omega
  have hg0 : g ≠ w.heap.size := by have := hE.lt; omega
  have hg1 : g ≠ w.heap.size + 1 := by have := hE.lt; omega
  clear hE
  simp only
  go_enter Try.func20, Try.ntmps20
  go_upto_region 1 with fail
  refine at_world (fun W => Below w.heap.size w W ∧ W.heap.size = w.heap.size + 1 + 1 ∧ Bx6 W w.heap.size ⟨mp, ba, bl, bc⟩ o res t ∧ Bx4 W (w.heap.size + 1) ⟨0, 0, 0, 0⟩ ∧ Bx7 W g (j * 7) n ∧ ∀ i, W.frozen? ⟨w.heap.size, i, none⟩ = false) ⟨(by repeat' (first | exact Below.refl _ _ | (refine Below.alloc ?_ ?_ _) | (refine Below.setCell ?_ ?_ _) | (refine Below.drew ?_) | (refine below_next ?_ ?_ (by assumption)) | omega | (simp; done) | (simp; omega))), by simp, ⟨by first | (simp; done) | (simp; omega), by simp [go_sem], by simp [go_sem], by simp [go_sem], by simp [go_sem], by simp [go_sem], by simp [go_sem]⟩, ⟨by first | (simp; done) | (simp; omega), by simp [go_sem], by simp [go_sem], by simp [go_sem], by simp [go_sem], by simp [go_sem], by simp [go_sem], by simp [go_sem], by simp [go_sem]⟩, HE.out.below (by repeat' (first | exact Below.refl _ _ | (refine Below.alloc ?_ ?_ _) | (refine Below.setCell ?_ ?_ _) | (refine Below.drew ?_) | (refine below_next ?_ ?_ (by assumption)) | omega | (simp; done) | (simp; omega))), by intro i; simp [go_sem]⟩ ?_
  rintro W0 ⟨hb0, hz0, B6, R4, BE, FE⟩
  clear m0 m1 m2 m3 m4 m5 m6
  have m0 := BE.c0
  have m1 := BE.c1
  have m2 := BE.c2
  have m3 := BE.c3
  have m4 := BE.c4
  have m5 := BE.c5
  have m6 := BE.c6
  go_upto_region 4 with fail
  refine at_world (fun W => NdI w W n ⟨mp, ba, bl, bc⟩ o res t) ⟨below_next hb0 hb0.size (by repeat' (first | exact Below.refl _ _ | (refine Below.alloc ?_ ?_ _) | (refine Below.setCell ?_ ?_ _) | (refine Below.drew ?_) | (refine below_next ?_ ?_ (by assumption)) | omega | (simp; done) | (simp; omega))), B6.below (by repeat' (first | exact Below.refl _ _ | (refine Below.alloc ?_ ?_ _) | (refine Below.setCell ?_ ?_ _) | (refine Below.drew ?_) | (refine below_next ?_ ?_ (by assumption)) | omega | (simp; done) | (simp; omega))), R4.below (by repeat' (first | exact Below.refl _ _ | (refine Below.alloc ?_ ?_ _) | (refine Below.setCell ?_ ?_ _) | (refine Below.drew ?_) | (refine below_next ?_ ?_ (by assumption)) | omega | (simp; done) | (simp; omega))), by rw [← hz0]; exact ⟨by first | (simp; done) | (simp; omega), by simp [go_sem], by simp [go_sem], by simp [go_sem], by simp [go_sem], by simp [go_sem], by simp [go_sem], by simp [go_sem]⟩, fun i => ((Below.frozen (B := W0.heap.size) (w := W0) (by repeat' (first | exact Below.refl _ _ | (refine Below.alloc ?_ ?_ _) | (refine Below.setCell ?_ ?_ _) | (refine Below.drew ?_) | (refine below_next ?_ ?_ (by assumption)) | omega | (simp; done) | (simp; omega))) (p := ⟨w.heap.size, i, none⟩) B6.lt)).trans (FE i)⟩ ?_
  intro W1 N1
  (try simp only [hz0])
  clear m0 m1 m2 m3 m4 m5 m6 hb0 hz0 B6 R4 BE FE
  have N := Lib.hid N1
  have n0 := (N1.b7).c0; have n1 : _ = _ := (N1.b7).box1; have n2 := (N1.b7).box2; have n3 := (N1.b7).box3; have n4 := (N1.b7).box4; have n5 := (N1.b7).box5; have n6 := (N1.b7).box6; have e0 := (N1.b6).c0; have e1 := (N1.b6).c1; have e2 := (N1.b6).c2; have e3 := (N1.b6).c3; have e4 := (N1.b6).c4; have e5 := (N1.b6).c5; have r0 := (N1.r4).c0; have r1 := (N1.r4).c1; have r2 := (N1.r4).c2; have r3 := (N1.r4).c3; have rf0 := (N1.r4).f0; have rf1 := (N1.r4).f1; have rf2 := (N1.r4).f2; have rf3 := (N1.r4).f3
  clear N1
  rw [HK.out] at n0
  have ef0 : W1.frozen? ⟨w.heap.size, 0, none⟩ = false := N.out.fe 0
  have ef1 : W1.frozen? ⟨w.heap.size, 1, none⟩ = false := N.out.fe 1
  go_upto_region 13 with fail
  refine at_world (fun W => Below w.heap.size w W ∧ Bx6 W w.heap.size o o res t ∧ Bx4 W (w.heap.size + 1) ⟨0, 0, 0, 0⟩ ∧ Bx7 W (w.heap.size + 1 + 1) 0 n) ⟨(N.out.hb.setCell (p := ⟨w.heap.size, 0, none⟩) (Nat.le_refl _) _).setCell (p := ⟨w.heap.size, 1, none⟩) (Nat.le_refl _) _, ⟨by simpa using N.out.b6.lt, by simp [go_sem, e0, e1], by simp [go_sem, e0, e1], by simp [go_sem, e2], by simp [go_sem, e3], by simp [go_sem, e4], by simp [go_sem, e5]⟩, (N.out.r4.other (by show w.heap.size ≠ _; omega) _).other (by show w.heap.size ≠ _; omega) _, (N.out.b7.other (by show w.heap.size ≠ _; omega) _).other (by show w.heap.size ≠ _; omega) _⟩ ?_
  rintro W2 ⟨hb2, B6, R4, B7⟩
  clear n0 n1 n2 n3 n4 n5 n6 e0 e1 e2 e3 e4 e5 r0 r1 r2 r3 rf0 rf1 rf2 rf3 N
  have n0 := (B7).c0; have n1 : _ = _ := (B7).box1; have n2 := (B7).box2; have n3 := (B7).box3; have n4 := (B7).box4; have n5 := (B7).box5; have n6 := (B7).box6
  have e0 := (B6).c0; have e1 := (B6).c1; have e2 := (B6).c2; have e3 := (B6).c3; have e4 := (B6).c4; have e5 := (B6).c5
  have HB2 := Lib.hid (And.intro hb2 R4)
  clear hb2 R4 B6 B7
  go_wp2_with (go_at_call 20; refine (NC _ HB2.out.1).mono ?_; rintro e' w5 ⟨rfl, hb5⟩; have R5 := HB2.out.2.below hb5; have HB5 := Lib.hid (below_next HB2.out.1 HB2.out.1.size hb5); have r0 := (R5).c0; have r1 := (R5).c1; have r2 := (R5).c2; have r3 := (R5).c3; have rf0 := (R5).f0; have rf1 := (R5).f1; have rf2 := (R5).f2; have rf3 := (R5).f3; clear hb5 NC R5)
  exact bodyPost_ret (v := gtV q) (by simp [results, Try.results20, go_sem, r0, r1, r2, r3, rf0, rf1, rf2, rf3, gtV]) rfl ⟨rfl, set4 HB5.out (by omega) _ _ _ _⟩
set_option maxRecDepth 100000 in
set_option maxHeartbeats 6400000 in
theorem nd_none (n : Ex) (v o : NV) (res t : Int) (g len cc j : Nat) (w : World) (hj : j < len) (hE : Bx7 w g (j * 7) n) (h1 : n.k ≠ 1) (h2 : n.k ≠ 2) (h5 : n.k ≠ 5) (h4 : n.k ≠ 4) (h3 : n.k ≠ 3) (h6 : n.k ≠ 6) (h7 : n.k ≠ 7) (h18 : n.k ≠ 18) (hk : n.k < 8 ∨ 17 < n.k) :
    Calls Try.prog 20 #[.slice (some ⟨g, 0, none⟩) len cc, .int .i64 (j : Int), envA v o res t] w fun e' w' => e' = .returned (gtV (⟨0, 5, 0, 0⟩)) ∧ Below w.heap.size w w' := by
  have k1 : (n.k == 1) = false := by rw [beq_eq_false_iff_ne]; omega
  have k2 : (n.k == 2) = false := by rw [beq_eq_false_iff_ne]; omega
  have k5 : (n.k == 5) = false := by rw [beq_eq_false_iff_ne]; omega
  have k4 : (n.k == 4) = false := by rw [beq_eq_false_iff_ne]; omega
  have k3 : (n.k == 3) = false := by rw [beq_eq_false_iff_ne]; omega
  have k6 : (n.k == 6) = false := by rw [beq_eq_false_iff_ne]; omega
  have k7 : (n.k == 7) = false := by rw [beq_eq_false_iff_ne]; omega
  have k18 : (n.k == 18) = false := by rw [beq_eq_false_iff_ne]; omega
  obtain ⟨kk, hkk⟩ : ∃ k, n.k = k := ⟨_, rfl⟩
  rw [hkk] at k1 k2 k5 k4 k3 k6 k7 k18 hk
  have HK := Lib.hid hkk
  clear hkk h1 h2 h5 h4 h3 h6 h7 h18
  rcases (by omega : kk < 8 ∨ (8 ≤ kk ∧ 17 < kk)) with hk1 | ⟨hk1, hk2⟩
  · clear hk
    obtain ⟨mp, ba, bl, bc⟩ := v
    unfold envA
    have HE := Lib.hid hE
    have m0 := hE.c0
    have m1 := hE.c1
    have m2 := hE.c2
    have m3 := hE.c3
    have m4 := hE.c4
    have m5 := hE.c5
    have m6 := hE.c6
    have hj0 : (0 : Int) ≤ (j : Int) := by omega
    have hj1 : (j : Int) < (len : Int) := by omega
    have hg0 : g ≠ w.heap.size := by have := hE.lt; omega
    have hg1 : g ≠ w.heap.size + 1 := by have := hE.lt; omega
    clear hE
    simp only
    go_enter Try.func20, Try.ntmps20
    go_upto_region 1 with fail
    refine at_world (fun W => Below w.heap.size w W ∧ W.heap.size = w.heap.size + 1 + 1 ∧ Bx6 W w.heap.size ⟨mp, ba, bl, bc⟩ o res t ∧ Bx4 W (w.heap.size + 1) ⟨0, 0, 0, 0⟩ ∧ Bx7 W g (j * 7) n ∧ ∀ i, W.frozen? ⟨w.heap.size, i, none⟩ = false) ⟨(by repeat' (first | exact Below.refl _ _ | (refine Below.alloc ?_ ?_ _) | (refine Below.setCell ?_ ?_ _) | (refine Below.drew ?_) | (refine below_next ?_ ?_ (by assumption)) | omega | (simp; done) | (simp; omega))), by simp, ⟨by first | (simp; done) | (simp; omega), by simp [go_sem], by simp [go_sem], by simp [go_sem], by simp [go_sem], by simp [go_sem], by simp [go_sem]⟩, ⟨by first | (simp; done) | (simp; omega), by simp [go_sem], by simp [go_sem], by simp [go_sem], by simp [go_sem], by simp [go_sem], by simp [go_sem], by simp [go_sem], by simp [go_sem]⟩, HE.out.below (by repeat' (first | exact Below.refl _ _ | (refine Below.alloc ?_ ?_ _) | (refine Below.setCell ?_ ?_ _) | (refine Below.drew ?_) | (refine below_next ?_ ?_ (by assumption)) | omega | (simp; done) | (simp; omega))), by intro i; simp [go_sem]⟩ ?_
    rintro W0 ⟨hb0, hz0, B6, R4, BE, FE⟩
    clear m0 m1 m2 m3 m4 m5 m6
    have m0 := BE.c0
    have m1 := BE.c1
    have m2 := BE.c2
    have m3 := BE.c3
    have m4 := BE.c4
    have m5 := BE.c5
    have m6 := BE.c6
    go_upto_region 4 with fail
    refine at_world (fun W => NdI w W n ⟨mp, ba, bl, bc⟩ o res t) ⟨below_next hb0 hb0.size (by repeat' (first | exact Below.refl _ _ | (refine Below.alloc ?_ ?_ _) | (refine Below.setCell ?_ ?_ _) | (refine Below.drew ?_) | (refine below_next ?_ ?_ (by assumption)) | omega | (simp; done) | (simp; omega))), B6.below (by repeat' (first | exact Below.refl _ _ | (refine Below.alloc ?_ ?_ _) | (refine Below.setCell ?_ ?_ _) | (refine Below.drew ?_) | (refine below_next ?_ ?_ (by assumption)) | omega | (simp; done) | (simp; omega))), R4.below (by repeat' (first | exact Below.refl _ _ | (refine Below.alloc ?_ ?_ _) | (refine Below.setCell ?_ ?_ _) | (refine Below.drew ?_) | (refine below_next ?_ ?_ (by assumption)) | omega | (simp; done) | (simp; omega))), by rw [← hz0]; exact ⟨by first | (simp; done) | (simp; omega), by simp [go_sem], by simp [go_sem], by simp [go_sem], by simp [go_sem], by simp [go_sem], by simp [go_sem], by simp [go_sem]⟩, fun i => ((Below.frozen (B := W0.heap.size) (w := W0) (by repeat' (first | exact Below.refl _ _ | (refine Below.alloc ?_ ?_ _) | (refine Below.setCell ?_ ?_ _) | (refine Below.drew ?_) | (refine below_next ?_ ?_ (by assumption)) | omega | (simp; done) | (simp; omega))) (p := ⟨w.heap.size, i, none⟩) B6.lt)).trans (FE i)⟩ ?_
    intro W1 N1
    (try simp only [hz0])
    clear m0 m1 m2 m3 m4 m5 m6 hb0 hz0 B6 R4 BE FE
    have N := Lib.hid N1
    have n0 := (N1.b7).c0; have n1 : _ = _ := (N1.b7).box1; have n2 := (N1.b7).box2; have n3 := (N1.b7).box3; have n4 := (N1.b7).box4; have n5 := (N1.b7).box5; have n6 := (N1.b7).box6; have e0 := (N1.b6).c0; have e1 := (N1.b6).c1; have e2 := (N1.b6).c2; have e3 := (N1.b6).c3; have e4 := (N1.b6).c4; have e5 := (N1.b6).c5; have r0 := (N1.r4).c0; have r1 := (N1.r4).c1; have r2 := (N1.r4).c2; have r3 := (N1.r4).c3; have rf0 := (N1.r4).f0; have rf1 := (N1.r4).f1; have rf2 := (N1.r4).f2; have rf3 := (N1.r4).f3
    clear N1
    rw [HK.out] at n0
    go_wp2_with fail
    exact bodyPost_ret (v := gtV ⟨0, 5, 0, 0⟩) (by simp [results, Try.results20, go_sem, r0, r1, r2, r3, rf0, rf1, rf2, rf3, gtV]) rfl ⟨rfl, set4 N.out.hb (by omega) _ _ _ _⟩
  · clear hk
    have q8 : decide (kk < 8) = false := decide_eq_false (by omega)
    obtain ⟨mp, ba, bl, bc⟩ := v
    unfold envA
    have HE := Lib.hid hE
    have m0 := hE.c0
    have m1 := hE.c1
    have m2 := hE.c2
    have m3 := hE.c3
    have m4 := hE.c4
    have m5 := hE.c5
    have m6 := hE.c6
    have hj0 : (0 : Int) ≤ (j : Int) := by omega
    have hj1 : (j : Int) < (len : Int) := by omega
    have hg0 : g ≠ w.heap.size := by have := hE.lt; omega
    have hg1 : g ≠ w.heap.size + 1 := by have := hE.lt; omega
    clear hE
    simp only
    go_enter Try.func20, Try.ntmps20
    go_upto_region 1 with fail
    refine at_world (fun W => Below w.heap.size w W ∧ W.heap.size = w.heap.size + 1 + 1 ∧ Bx6 W w.heap.size ⟨mp, ba, bl, bc⟩ o res t ∧ Bx4 W (w.heap.size + 1) ⟨0, 0, 0, 0⟩ ∧ Bx7 W g (j * 7) n ∧ ∀ i, W.frozen? ⟨w.heap.size, i, none⟩ = false) ⟨(by repeat' (first | exact Below.refl _ _ | (refine Below.alloc ?_ ?_ _) | (refine Below.setCell ?_ ?_ _) | (refine Below.drew ?_) | (refine below_next ?_ ?_ (by assumption)) | omega | (simp; done) | (simp; omega))), by simp, ⟨by first | (simp; done) | (simp; omega), by simp [go_sem], by simp [go_sem], by simp [go_sem], by simp [go_sem], by simp [go_sem], by simp [go_sem]⟩, ⟨by first | (simp; done) | (simp; omega), by simp [go_sem], by simp [go_sem], by simp [go_sem], by simp [go_sem], by simp [go_sem], by simp [go_sem], by simp [go_sem], by simp [go_sem]⟩, HE.out.below (by repeat' (first | exact Below.refl _ _ | (refine Below.alloc ?_ ?_ _) | (refine Below.setCell ?_ ?_ _) | (refine Below.drew ?_) | (refine below_next ?_ ?_ (by assumption)) | omega | (simp; done) | (simp; omega))), by intro i; simp [go_sem]⟩ ?_
    rintro W0 ⟨hb0, hz0, B6, R4, BE, FE⟩
    clear m0 m1 m2 m3 m4 m5 m6
    have m0 := BE.c0
    have m1 := BE.c1
    have m2 := BE.c2
    have m3 := BE.c3
    have m4 := BE.c4
    have m5 := BE.c5
    have m6 := BE.c6
    go_upto_region 4 with fail
    refine at_world (fun W => NdI w W n ⟨mp, ba, bl, bc⟩ o res t) ⟨below_next hb0 hb0.size (by repeat' (first | exact Below.refl _ _ | (refine Below.alloc ?_ ?_ _) | (refine Below.setCell ?_ ?_ _) | (refine Below.drew ?_) | (refine below_next ?_ ?_ (by assumption)) | omega | (simp; done) | (simp; omega))), B6.below (by repeat' (first | exact Below.refl _ _ | (refine Below.alloc ?_ ?_ _) | (refine Below.setCell ?_ ?_ _) | (refine Below.drew ?_) | (refine below_next ?_ ?_ (by assumption)) | omega | (simp; done) | (simp; omega))), R4.below (by repeat' (first | exact Below.refl _ _ | (refine Below.alloc ?_ ?_ _) | (refine Below.setCell ?_ ?_ _) | (refine Below.drew ?_) | (refine below_next ?_ ?_ (by assumption)) | omega | (simp; done) | (simp; omega))), by rw [← hz0]; exact ⟨by first | (simp; done) | (simp; omega), by simp [go_sem], by simp [go_sem], by simp [go_sem], by simp [go_sem], by simp [go_sem], by simp [go_sem], by simp [go_sem]⟩, fun i => ((Below.frozen (B := W0.heap.size) (w := W0) (by repeat' (first | exact Below.refl _ _ | (refine Below.alloc ?_ ?_ _) | (refine Below.setCell ?_ ?_ _) | (refine Below.drew ?_) | (refine below_next ?_ ?_ (by assumption)) | omega | (simp; done) | (simp; omega))) (p := ⟨w.heap.size, i, none⟩) B6.lt)).trans (FE i)⟩ ?_
    intro W1 N1
    (try simp only [hz0])
    clear m0 m1 m2 m3 m4 m5 m6 hb0 hz0 B6 R4 BE FE
    have N := Lib.hid N1
    have n0 := (N1.b7).c0; have n1 : _ = _ := (N1.b7).box1; have n2 := (N1.b7).box2; have n3 := (N1.b7).box3; have n4 := (N1.b7).box4; have n5 := (N1.b7).box5; have n6 := (N1.b7).box6; have e0 := (N1.b6).c0; have e1 := (N1.b6).c1; have e2 := (N1.b6).c2; have e3 := (N1.b6).c3; have e4 := (N1.b6).c4; have e5 := (N1.b6).c5; have r0 := (N1.r4).c0; have r1 := (N1.r4).c1; have r2 := (N1.r4).c2; have r3 := (N1.r4).c3; have rf0 := (N1.r4).f0; have rf1 := (N1.r4).f1; have rf2 := (N1.r4).f2; have rf3 := (N1.r4).f3
    clear N1
    rw [HK.out] at n0
    go_wp2_with fail
    exact bodyPost_ret (v := gtV ⟨0, 5, 0, 0⟩) (by simp [results, Try.results20, go_sem, r0, r1, r2, r3, rf0, rf1, rf2, rf3, gtV]) rfl ⟨rfl, set4 N.out.hb (by omega) _ _ _ _⟩
set_option maxRecDepth 100000 in
set_option maxHeartbeats 6400000 in
theorem nd_bin1 (n : Ex) (v o : NV) (res t : Int) (g len cc j : Nat) (w : World) (hj : j < len) (hE : Bx7 w g (j * 7) n) (hk : 8 ≤ n.k) (hk' : n.k ≤ 17) (a b : Gt) (hu : a.ub ≠ 0) (HA : ∀ W, Below w.heap.size w W → Calls Try.prog 20 #[.slice (some ⟨g, 0, none⟩) len cc, .int .i64 n.a, envA v o res t] W fun e' w' => e' = .returned (gtV a) ∧ Below W.heap.size W w') (HB : ∀ W, Below w.heap.size w W → Calls Try.prog 20 #[.slice (some ⟨g, 0, none⟩) len cc, .int .i64 n.b, envA v o res t] W fun e' w' => e' = .returned (gtV b) ∧ Below W.heap.size W w')  :
    Calls Try.prog 20 #[.slice (some ⟨g, 0, none⟩) len cc, .int .i64 (j : Int), envA v o res t] w fun e' w' => e' = .returned (gtV (⟨0, mixT n.k a.t b.t, a.ub, a.at_⟩)) ∧ Below w.heap.size w w' := by
  obtain ⟨T, hT⟩ : ∃ x, mixT n.k a.t b.t = x := ⟨_, rfl⟩
  have MC : ∀ W, Calls Try.prog 21 #[.int .i64 n.k, .int .i64 a.t, .int .i64 b.t] W fun e w' => e = .returned (.int .i64 T) ∧ W = w' := fun W => by have := mixed_c n.k a.t b.t W; rwa [hT] at this
  rw [hT]
  clear hT
  unfold envA gtV at HA HB
  have u0 : (a.ub == 0) = false := by rw [beq_eq_false_iff_ne]; exact hu
  have u1 : (a.ub != 0) = true := by rw [bne, u0]; rfl
  clear hu
  have k1 : (n.k == 1) = false := by rw [beq_eq_false_iff_ne]; omega
  have k2 : (n.k == 2) = false := by rw [beq_eq_false_iff_ne]; omega
  have k5 : (n.k == 5) = false := by rw [beq_eq_false_iff_ne]; omega
  have k4 : (n.k == 4) = false := by rw [beq_eq_false_iff_ne]; omega
  have k3 : (n.k == 3) = false := by rw [beq_eq_false_iff_ne]; omega
  have k6 : (n.k == 6) = false := by rw [beq_eq_false_iff_ne]; omega
  have k7 : (n.k == 7) = false := by rw [beq_eq_false_iff_ne]; omega
  have k18 : (n.k == 18) = false := by rw [beq_eq_false_iff_ne]; omega
  obtain ⟨kk, hkk⟩ : ∃ k, n.k = k := ⟨_, rfl⟩
  rw [hkk] at hk hk' k1 k2 k5 k4 k3 k6 k7 k18 MC
  have HK := Lib.hid hkk
  have q8 : decide (kk < 8) = false := decide_eq_false (by omega)
  have q17 : decide (17 < kk) = false := decide_eq_false (by omega)
  clear hkk
  obtain ⟨mp, ba, bl, bc⟩ := v
  unfold envA
  simp only at HA HB
  have HE := Lib.hid hE
  have m0 := hE.c0
  have m1 := hE.c1
  have m2 := hE.c2
  have m3 := hE.c3
  have m4 := hE.c4
  have m5 := hE.c5
  have m6 := hE.c6
  have hj0 : (0 : Int) ≤ (j : Int) := by omega
  have hj1 : (j : Int) < (len : Int) := by omega
  have hg0 : g ≠ w.heap.size := by have := hE.lt; omega
  have hg1 : g ≠ w.heap.size + 1 := by have := hE.lt; omega
  clear hE
  simp only
  go_enter Try.func20, Try.ntmps20
  go_upto_region 1 with fail
  refine at_world (fun W => Below w.heap.size w W ∧ W.heap.size = w.heap.size + 1 + 1 ∧ Bx6 W w.heap.size ⟨mp, ba, bl, bc⟩ o res t ∧ Bx4 W (w.heap.size + 1) ⟨0, 0, 0, 0⟩ ∧ Bx7 W g (j * 7) n ∧ ∀ i, W.frozen? ⟨w.heap.size, i, none⟩ = false) ⟨(by repeat' (first | exact Below.refl _ _ | (refine Below.alloc ?_ ?_ _) | (refine Below.setCell ?_ ?_ _) | (refine Below.drew ?_) | (refine below_next ?_ ?_ (by assumption)) | omega | (simp; done) | (simp; omega))), by simp, ⟨by first | (simp; done) | (simp; omega), by simp [go_sem], by simp [go_sem], by simp [go_sem], by simp [go_sem], by simp [go_sem], by simp [go_sem]⟩, ⟨by first | (simp; done) | (simp; omega), by simp [go_sem], by simp [go_sem], by simp [go_sem], by simp [go_sem], by simp [go_sem], by simp [go_sem], by simp [go_sem], by simp [go_sem]⟩, HE.out.below (by repeat' (first | exact Below.refl _ _ | (refine Below.alloc ?_ ?_ _) | (refine Below.setCell ?_ ?_ _) | (refine Below.drew ?_) | (refine below_next ?_ ?_ (by assumption)) | omega | (simp; done) | (simp; omega))), by intro i; simp [go_sem]⟩ ?_
  rintro W0 ⟨hb0, hz0, B6, R4, BE, FE⟩
  clear m0 m1 m2 m3 m4 m5 m6
  have m0 := BE.c0
  have m1 := BE.c1
  have m2 := BE.c2
  have m3 := BE.c3
  have m4 := BE.c4
  have m5 := BE.c5
  have m6 := BE.c6
  go_upto_region 4 with fail
  refine at_world (fun W => NdI w W n ⟨mp, ba, bl, bc⟩ o res t) ⟨below_next hb0 hb0.size (by repeat' (first | exact Below.refl _ _ | (refine Below.alloc ?_ ?_ _) | (refine Below.setCell ?_ ?_ _) | (refine Below.drew ?_) | (refine below_next ?_ ?_ (by assumption)) | omega | (simp; done) | (simp; omega))), B6.below (by repeat' (first | exact Below.refl _ _ | (refine Below.alloc ?_ ?_ _) | (refine Below.setCell ?_ ?_ _) | (refine Below.drew ?_) | (refine below_next ?_ ?_ (by assumption)) | omega | (simp; done) | (simp; omega))), R4.below (by repeat' (first | exact Below.refl _ _ | (refine Below.alloc ?_ ?_ _) | (refine Below.setCell ?_ ?_ _) | (refine Below.drew ?_) | (refine below_next ?_ ?_ (by assumption)) | omega | (simp; done) | (simp; omega))), by rw [← hz0]; exact ⟨by first | (simp; done) | (simp; omega), by simp [go_sem], by simp [go_sem], by simp [go_sem], by simp [go_sem], by simp [go_sem], by simp [go_sem], by simp [go_sem]⟩, fun i => ((Below.frozen (B := W0.heap.size) (w := W0) (by repeat' (first | exact Below.refl _ _ | (refine Below.alloc ?_ ?_ _) | (refine Below.setCell ?_ ?_ _) | (refine Below.drew ?_) | (refine below_next ?_ ?_ (by assumption)) | omega | (simp; done) | (simp; omega))) (p := ⟨w.heap.size, i, none⟩) B6.lt)).trans (FE i)⟩ ?_
  intro W1 N1
  (try simp only [hz0])
  clear m0 m1 m2 m3 m4 m5 m6 hb0 hz0 B6 R4 BE FE
  have N := Lib.hid N1
  have n0 := (N1.b7).c0; have n1 : _ = _ := (N1.b7).box1; have n2 := (N1.b7).box2; have n3 := (N1.b7).box3; have n4 := (N1.b7).box4; have n5 := (N1.b7).box5; have n6 := (N1.b7).box6; have e0 := (N1.b6).c0; have e1 := (N1.b6).c1; have e2 := (N1.b6).c2; have e3 := (N1.b6).c3; have e4 := (N1.b6).c4; have e5 := (N1.b6).c5; have r0 := (N1.r4).c0; have r1 := (N1.r4).c1; have r2 := (N1.r4).c2; have r3 := (N1.r4).c3; have rf0 := (N1.r4).f0; have rf1 := (N1.r4).f1; have rf2 := (N1.r4).f2; have rf3 := (N1.r4).f3
  clear N1
  rw [HK.out] at n0
  have hD : w.heap.size + 1 + 1 < W1.heap.size := N.out.b7.lt
  go_upto_region 22 with (go_at_call 20; refine (HA _ N.out.hb).mono ?_; rintro e' w5 ⟨rfl, hb5⟩; have N := Lib.hid (N.out.below hb5); have hs5 := hb5.size; clear hb5 HA)
  refine at_world (fun W => BnI w W n ⟨mp, ba, bl, bc⟩ o res t w5.heap.size a) ⟨N.out.below (by repeat' (first | exact Below.refl _ _ | (refine Below.alloc ?_ ?_ _) | (refine Below.setCell ?_ ?_ _) | (refine Below.drew ?_) | (refine below_next ?_ ?_ (by assumption)) | omega | (simp; done) | (simp; omega))), ⟨by first | (simp; done) | (simp; omega), by simp [go_sem], by simp [go_sem], by simp [go_sem], by simp [go_sem], by simp [go_sem], by simp [go_sem], by simp [go_sem], by simp [go_sem]⟩, by omega⟩ ?_
  intro W6 B6
  obtain ⟨D3, hD3⟩ : ∃ x, w5.heap.size = x := ⟨_, rfl⟩
  simp only [hD3] at B6 ⊢
  clear hD3 hs5 hD N
  clear n0 n1 n2 n3 n4 n5 n6 e0 e1 e2 e3 e4 e5 r0 r1 r2 r3 rf0 rf1 rf2 rf3
  have B := Lib.hid B6
  have n0 := (B6.nd.b7).c0; have n1 : _ = _ := (B6.nd.b7).box1; have n2 := (B6.nd.b7).box2; have n3 := (B6.nd.b7).box3; have n4 := (B6.nd.b7).box4; have n5 := (B6.nd.b7).box5; have n6 := (B6.nd.b7).box6; have e0 := (B6.nd.b6).c0; have e1 := (B6.nd.b6).c1; have e2 := (B6.nd.b6).c2; have e3 := (B6.nd.b6).c3; have e4 := (B6.nd.b6).c4; have e5 := (B6.nd.b6).c5; have r0 := (B6.nd.r4).c0; have r1 := (B6.nd.r4).c1; have r2 := (B6.nd.r4).c2; have r3 := (B6.nd.r4).c3; have rf0 := (B6.nd.r4).f0; have rf1 := (B6.nd.r4).f1; have rf2 := (B6.nd.r4).f2; have rf3 := (B6.nd.r4).f3
  have x0 := (B6.a4).c0; have x1 := (B6.a4).c1; have x2 := (B6.a4).c2; have x3 := (B6.a4).c3; have xf0 := (B6.a4).f0; have xf1 := (B6.a4).f1; have xf2 := (B6.a4).f2; have xf3 := (B6.a4).f3
  clear B6
  rw [HK.out] at n0
  go_upto_region 24 with (go_at_call 20; refine (HB _ B.out.nd.hb).mono ?_; rintro e' w7 ⟨rfl, hb7⟩; have B := Lib.hid (B.out.below hb7); have hs7 := hb7.size; clear hb7 HB)
  refine at_world (fun W => BnI w W n ⟨mp, ba, bl, bc⟩ o res t D3 a ∧ Bx4 W w7.heap.size b) ⟨B.out.below (by repeat' (first | exact Below.refl _ _ | (refine Below.alloc ?_ ?_ _) | (refine Below.setCell ?_ ?_ _) | (refine Below.drew ?_) | (refine below_next ?_ ?_ (by assumption)) | omega | (simp; done) | (simp; omega))), ⟨by first | (simp; done) | (simp; omega), by simp [go_sem], by simp [go_sem], by simp [go_sem], by simp [go_sem], by simp [go_sem], by simp [go_sem], by simp [go_sem], by simp [go_sem]⟩⟩ ?_
  rintro W8 ⟨B8, C8⟩
  obtain ⟨D4, hD4⟩ : ∃ x, w7.heap.size = x := ⟨_, rfl⟩
  simp only [hD4] at C8 ⊢
  clear hD4 hs7 B
  clear n0 n1 n2 n3 n4 n5 n6 e0 e1 e2 e3 e4 e5 r0 r1 r2 r3 rf0 rf1 rf2 rf3 x0 xf0 x1 xf1 x2 xf2 x3 xf3
  have B := Lib.hid B8
  have C := Lib.hid C8
  have n0 := (B8.nd.b7).c0; have n1 : _ = _ := (B8.nd.b7).box1; have n2 := (B8.nd.b7).box2; have n3 := (B8.nd.b7).box3; have n4 := (B8.nd.b7).box4; have n5 := (B8.nd.b7).box5; have n6 := (B8.nd.b7).box6; have e0 := (B8.nd.b6).c0; have e1 := (B8.nd.b6).c1; have e2 := (B8.nd.b6).c2; have e3 := (B8.nd.b6).c3; have e4 := (B8.nd.b6).c4; have e5 := (B8.nd.b6).c5; have r0 := (B8.nd.r4).c0; have r1 := (B8.nd.r4).c1; have r2 := (B8.nd.r4).c2; have r3 := (B8.nd.r4).c3; have rf0 := (B8.nd.r4).f0; have rf1 := (B8.nd.r4).f1; have rf2 := (B8.nd.r4).f2; have rf3 := (B8.nd.r4).f3
  have x0 := (B8.a4).c0; have x1 := (B8.a4).c1; have x2 := (B8.a4).c2; have x3 := (B8.a4).c3; have xf0 := (B8.a4).f0; have xf1 := (B8.a4).f1; have xf2 := (B8.a4).f2; have xf3 := (B8.a4).f3
  have y0 := (C8).c0; have y1 := (C8).c1; have y2 := (C8).c2; have y3 := (C8).c3; have yf0 := (C8).f0; have yf1 := (C8).f1; have yf2 := (C8).f2; have yf3 := (C8).f3
  clear B8 C8
  rw [HK.out] at n0
  have d0 := fun (x' : WIn (Below W8.heap.size W8)) => cell_later x'.h n0
  have d1 := fun (x' : WIn (Below W8.heap.size W8)) => cell_later x'.h x1
  have d2 := fun (x' : WIn (Below W8.heap.size W8)) => cell_later x'.h y1
  have d3 := fun (x' : WIn (Below W8.heap.size W8)) => cell_later x'.h x2
  have d4 := fun (x' : WIn (Below W8.heap.size W8)) => cell_later x'.h x3
  refine region_tail 12 (Below W8.heap.size W8) (by kernel_rfl) (by kernel_rfl) (Below.refl _ _).drew (fun inst => ?_)
  simp only [List.take_succ_cons, List.take_zero, List.drop_succ_cons, List.drop_zero]
  iterate 12 (go_big_quiet_step ((go_at_call 21; exact call_same _ (MC _))))
  refine wpQuiet_nil ?_
  intro wd hbd
  have B := Lib.hid (B.out.below hbd)
  clear hbd d0 d1 d2 d3 d4 MC
  have r0 := (B.out.nd.r4).c0; have r1 := (B.out.nd.r4).c1; have r2 := (B.out.nd.r4).c2; have r3 := (B.out.nd.r4).c3; have rf0 := (B.out.nd.r4).f0; have rf1 := (B.out.nd.r4).f1; have rf2 := (B.out.nd.r4).f2; have rf3 := (B.out.nd.r4).f3
  go_wp2_with fail
  exact bodyPost_ret (v := gtV ⟨0, T, a.ub, a.at_⟩) (by simp [results, Try.results20, go_sem, r0, r1, r2, r3, rf0, rf1, rf2, rf3, gtV]) rfl ⟨rfl, set4 B.out.nd.hb (by omega) _ _ _ _⟩
set_option maxRecDepth 100000 in
set_option maxHeartbeats 6400000 in
theorem nd_bin2 (n : Ex) (v o : NV) (res t : Int) (g len cc j : Nat) (w : World) (hj : j < len) (hE : Bx7 w g (j * 7) n) (hk : 8 ≤ n.k) (hk' : n.k ≤ 17) (a b : Gt) (hu : a.ub = 0) (hv : b.ub ≠ 0) (HA : ∀ W, Below w.heap.size w W → Calls Try.prog 20 #[.slice (some ⟨g, 0, none⟩) len cc, .int .i64 n.a, envA v o res t] W fun e' w' => e' = .returned (gtV a) ∧ Below W.heap.size W w') (HB : ∀ W, Below w.heap.size w W → Calls Try.prog 20 #[.slice (some ⟨g, 0, none⟩) len cc, .int .i64 n.b, envA v o res t] W fun e' w' => e' = .returned (gtV b) ∧ Below W.heap.size W w')  :
    Calls Try.prog 20 #[.slice (some ⟨g, 0, none⟩) len cc, .int .i64 (j : Int), envA v o res t] w fun e' w' => e' = .returned (gtV (⟨0, mixT n.k a.t b.t, b.ub, b.at_⟩)) ∧ Below w.heap.size w w' := by
  obtain ⟨T, hT⟩ : ∃ x, mixT n.k a.t b.t = x := ⟨_, rfl⟩
  have MC : ∀ W, Calls Try.prog 21 #[.int .i64 n.k, .int .i64 a.t, .int .i64 b.t] W fun e w' => e = .returned (.int .i64 T) ∧ W = w' := fun W => by have := mixed_c n.k a.t b.t W; rwa [hT] at this
  rw [hT]
  clear hT
  unfold envA gtV at HA HB
  have u0 : (b.ub == 0) = false := by rw [beq_eq_false_iff_ne]; exact hv
  have u1 : (b.ub != 0) = true := by rw [bne, u0]; rfl
  have HU := Lib.hid hu
  clear hu hv
  have k1 : (n.k == 1) = false := by rw [beq_eq_false_iff_ne]; omega
  have k2 : (n.k == 2) = false := by rw [beq_eq_false_iff_ne]; omega
  have k5 : (n.k == 5) = false := by rw [beq_eq_false_iff_ne]; omega
  have k4 : (n.k == 4) = false := by rw [beq_eq_false_iff_ne]; omega
  have k3 : (n.k == 3) = false := by rw [beq_eq_false_iff_ne]; omega
  have k6 : (n.k == 6) = false := by rw [beq_eq_false_iff_ne]; omega
  have k7 : (n.k == 7) = false := by rw [beq_eq_false_iff_ne]; omega
  have k18 : (n.k == 18) = false := by rw [beq_eq_false_iff_ne]; omega
  obtain ⟨kk, hkk⟩ : ∃ k, n.k = k := ⟨_, rfl⟩
  rw [hkk] at hk hk' k1 k2 k5 k4 k3 k6 k7 k18 MC
  have HK := Lib.hid hkk
  have q8 : decide (kk < 8) = false := decide_eq_false (by omega)
  have q17 : decide (17 < kk) = false := decide_eq_false (by omega)
  clear hkk
  obtain ⟨mp, ba, bl, bc⟩ := v
  unfold envA
  simp only at HA HB
  have HE := Lib.hid hE
  have m0 := hE.c0
  have m1 := hE.c1
  have m2 := hE.c2
  have m3 := hE.c3
  have m4 := hE.c4
  have m5 := hE.c5
  have m6 := hE.c6
  have hj0 : (0 : Int) ≤ (j : Int) := by omega
  have hj1 : (j : Int) < (len : Int) := by omega
  have hg0 : g ≠ w.heap.size := by have := hE.lt; omega
  have hg1 : g ≠ w.heap.size + 1 := by have := hE.lt; omega
  clear hE
  simp only
  go_enter Try.func20, Try.ntmps20
  go_upto_region 1 with fail
  refine at_world (fun W => Below w.heap.size w W ∧ W.heap.size = w.heap.size + 1 + 1 ∧ Bx6 W w.heap.size ⟨mp, ba, bl, bc⟩ o res t ∧ Bx4 W (w.heap.size + 1) ⟨0, 0, 0, 0⟩ ∧ Bx7 W g (j * 7) n ∧ ∀ i, W.frozen? ⟨w.heap.size, i, none⟩ = false) ⟨(by repeat' (first | exact Below.refl _ _ | (refine Below.alloc ?_ ?_ _) | (refine Below.setCell ?_ ?_ _) | (refine Below.drew ?_) | (refine below_next ?_ ?_ (by assumption)) | omega | (simp; done) | (simp; omega))), by simp, ⟨by first | (simp; done) | (simp; omega), by simp [go_sem], by simp [go_sem], by simp [go_sem], by simp [go_sem], by simp [go_sem], by simp [go_sem]⟩, ⟨by first | (simp; done) | (simp; omega), by simp [go_sem], by simp [go_sem], by simp [go_sem], by simp [go_sem], by simp [go_sem], by simp [go_sem], by simp [go_sem], by simp [go_sem]⟩, HE.out.below (by repeat' (first | exact Below.refl _ _ | (refine Below.alloc ?_ ?_ _) | (refine Below.setCell ?_ ?_ _) | (refine Below.drew ?_) | (refine below_next ?_ ?_ (by assumption)) | omega | (simp; done) | (simp; omega))), by intro i; simp [go_sem]⟩ ?_
  rintro W0 ⟨hb0, hz0, B6, R4, BE, FE⟩
  clear m0 m1 m2 m3 m4 m5 m6
  have m0 := BE.c0
  have m1 := BE.c1
  have m2 := BE.c2
  have m3 := BE.c3
  have m4 := BE.c4
  have m5 := BE.c5
  have m6 := BE.c6
  go_upto_region 4 with fail
  refine at_world (fun W => NdI w W n ⟨mp, ba, bl, bc⟩ o res t) ⟨below_next hb0 hb0.size (by repeat' (first | exact Below.refl _ _ | (refine Below.alloc ?_ ?_ _) | (refine Below.setCell ?_ ?_ _) | (refine Below.drew ?_) | (refine below_next ?_ ?_ (by assumption)) | omega | (simp; done) | (simp; omega))), B6.below (by repeat' (first | exact Below.refl _ _ | (refine Below.alloc ?_ ?_ _) | (refine Below.setCell ?_ ?_ _) | (refine Below.drew ?_) | (refine below_next ?_ ?_ (by assumption)) | omega | (simp; done) | (simp; omega))), R4.below (by repeat' (first | exact Below.refl _ _ | (refine Below.alloc ?_ ?_ _) | (refine Below.setCell ?_ ?_ _) | (refine Below.drew ?_) | (refine below_next ?_ ?_ (by assumption)) | omega | (simp; done) | (simp; omega))), by rw [← hz0]; exact ⟨by first | (simp; done) | (simp; omega), by simp [go_sem], by simp [go_sem], by simp [go_sem], by simp [go_sem], by simp [go_sem], by simp [go_sem], by simp [go_sem]⟩, fun i => ((Below.frozen (B := W0.heap.size) (w := W0) (by repeat' (first | exact Below.refl _ _ | (refine Below.alloc ?_ ?_ _) | (refine Below.setCell ?_ ?_ _) | (refine Below.drew ?_) | (refine below_next ?_ ?_ (by assumption)) | omega | (simp; done) | (simp; omega))) (p := ⟨w.heap.size, i, none⟩) B6.lt)).trans (FE i)⟩ ?_
  intro W1 N1
  (try simp only [hz0])
  clear m0 m1 m2 m3 m4 m5 m6 hb0 hz0 B6 R4 BE FE
  have N := Lib.hid N1
  have n0 := (N1.b7).c0; have n1 : _ = _ := (N1.b7).box1; have n2 := (N1.b7).box2; have n3 := (N1.b7).box3; have n4 := (N1.b7).box4; have n5 := (N1.b7).box5; have n6 := (N1.b7).box6; have e0 := (N1.b6).c0; have e1 := (N1.b6).c1; have e2 := (N1.b6).c2; have e3 := (N1.b6).c3; have e4 := (N1.b6).c4; have e5 := (N1.b6).c5; have r0 := (N1.r4).c0; have r1 := (N1.r4).c1; have r2 := (N1.r4).c2; have r3 := (N1.r4).c3; have rf0 := (N1.r4).f0; have rf1 := (N1.r4).f1; have rf2 := (N1.r4).f2; have rf3 := (N1.r4).f3
  clear N1
  rw [HK.out] at n0
  have hD : w.heap.size + 1 + 1 < W1.heap.size := N.out.b7.lt
  go_upto_region 22 with (go_at_call 20; refine (HA _ N.out.hb).mono ?_; rintro e' w5 ⟨rfl, hb5⟩; have N := Lib.hid (N.out.below hb5); have hs5 := hb5.size; clear hb5 HA)
  refine at_world (fun W => BnI w W n ⟨mp, ba, bl, bc⟩ o res t w5.heap.size a) ⟨N.out.below (by repeat' (first | exact Below.refl _ _ | (refine Below.alloc ?_ ?_ _) | (refine Below.setCell ?_ ?_ _) | (refine Below.drew ?_) | (refine below_next ?_ ?_ (by assumption)) | omega | (simp; done) | (simp; omega))), ⟨by first | (simp; done) | (simp; omega), by simp [go_sem], by simp [go_sem], by simp [go_sem], by simp [go_sem], by simp [go_sem], by simp [go_sem], by simp [go_sem], by simp [go_sem]⟩, by omega⟩ ?_
  intro W6 B6
  obtain ⟨D3, hD3⟩ : ∃ x, w5.heap.size = x := ⟨_, rfl⟩
  simp only [hD3] at B6 ⊢
  clear hD3 hs5 hD N
  clear n0 n1 n2 n3 n4 n5 n6 e0 e1 e2 e3 e4 e5 r0 r1 r2 r3 rf0 rf1 rf2 rf3
  have B := Lib.hid B6
  have n0 := (B6.nd.b7).c0; have n1 : _ = _ := (B6.nd.b7).box1; have n2 := (B6.nd.b7).box2; have n3 := (B6.nd.b7).box3; have n4 := (B6.nd.b7).box4; have n5 := (B6.nd.b7).box5; have n6 := (B6.nd.b7).box6; have e0 := (B6.nd.b6).c0; have e1 := (B6.nd.b6).c1; have e2 := (B6.nd.b6).c2; have e3 := (B6.nd.b6).c3; have e4 := (B6.nd.b6).c4; have e5 := (B6.nd.b6).c5; have r0 := (B6.nd.r4).c0; have r1 := (B6.nd.r4).c1; have r2 := (B6.nd.r4).c2; have r3 := (B6.nd.r4).c3; have rf0 := (B6.nd.r4).f0; have rf1 := (B6.nd.r4).f1; have rf2 := (B6.nd.r4).f2; have rf3 := (B6.nd.r4).f3
  have x0 := (B6.a4).c0; have x1 := (B6.a4).c1; have x2 := (B6.a4).c2; have x3 := (B6.a4).c3; have xf0 := (B6.a4).f0; have xf1 := (B6.a4).f1; have xf2 := (B6.a4).f2; have xf3 := (B6.a4).f3
  clear B6
  rw [HK.out] at n0
  rw [HU.out] at x2
  go_upto_region 26 with (go_at_call 20; refine (HB _ B.out.nd.hb).mono ?_; rintro e' w7 ⟨rfl, hb7⟩; have B := Lib.hid (B.out.below hb7); have hs7 := hb7.size; clear hb7 HB)
  refine at_world (fun W => BnI w W n ⟨mp, ba, bl, bc⟩ o res t D3 a ∧ Bx4 W w7.heap.size b) ⟨B.out.below (by repeat' (first | exact Below.refl _ _ | (refine Below.alloc ?_ ?_ _) | (refine Below.setCell ?_ ?_ _) | (refine Below.drew ?_) | (refine below_next ?_ ?_ (by assumption)) | omega | (simp; done) | (simp; omega))), ⟨by first | (simp; done) | (simp; omega), by simp [go_sem], by simp [go_sem], by simp [go_sem], by simp [go_sem], by simp [go_sem], by simp [go_sem], by simp [go_sem], by simp [go_sem]⟩⟩ ?_
  rintro W8 ⟨B8, C8⟩
  obtain ⟨D4, hD4⟩ : ∃ x, w7.heap.size = x := ⟨_, rfl⟩
  simp only [hD4] at C8 ⊢
  clear hD4 hs7 B
  clear n0 n1 n2 n3 n4 n5 n6 e0 e1 e2 e3 e4 e5 r0 r1 r2 r3 rf0 rf1 rf2 rf3 x0 xf0 x1 xf1 x2 xf2 x3 xf3
  have B := Lib.hid B8
  have C := Lib.hid C8
  have n0 := (B8.nd.b7).c0; have n1 : _ = _ := (B8.nd.b7).box1; have n2 := (B8.nd.b7).box2; have n3 := (B8.nd.b7).box3; have n4 := (B8.nd.b7).box4; have n5 := (B8.nd.b7).box5; have n6 := (B8.nd.b7).box6; have e0 := (B8.nd.b6).c0; have e1 := (B8.nd.b6).c1; have e2 := (B8.nd.b6).c2; have e3 := (B8.nd.b6).c3; have e4 := (B8.nd.b6).c4; have e5 := (B8.nd.b6).c5; have r0 := (B8.nd.r4).c0; have r1 := (B8.nd.r4).c1; have r2 := (B8.nd.r4).c2; have r3 := (B8.nd.r4).c3; have rf0 := (B8.nd.r4).f0; have rf1 := (B8.nd.r4).f1; have rf2 := (B8.nd.r4).f2; have rf3 := (B8.nd.r4).f3
  have x0 := (B8.a4).c0; have x1 := (B8.a4).c1; have x2 := (B8.a4).c2; have x3 := (B8.a4).c3; have xf0 := (B8.a4).f0; have xf1 := (B8.a4).f1; have xf2 := (B8.a4).f2; have xf3 := (B8.a4).f3
  have y0 := (C8).c0; have y1 := (C8).c1; have y2 := (C8).c2; have y3 := (C8).c3; have yf0 := (C8).f0; have yf1 := (C8).f1; have yf2 := (C8).f2; have yf3 := (C8).f3
  clear B8 C8
  rw [HK.out] at n0
  go_upto_region 27 with fail
  have d0 := fun (x' : WIn (Below W8.heap.size W8)) => cell_later x'.h n0
  have d1 := fun (x' : WIn (Below W8.heap.size W8)) => cell_later x'.h x1
  have d2 := fun (x' : WIn (Below W8.heap.size W8)) => cell_later x'.h y1
  have d3 := fun (x' : WIn (Below W8.heap.size W8)) => cell_later x'.h y2
  have d4 := fun (x' : WIn (Below W8.heap.size W8)) => cell_later x'.h y3
  refine region_tail 12 (Below W8.heap.size W8) (by kernel_rfl) (by kernel_rfl) (Below.refl _ _).drew (fun inst => ?_)
  simp only [List.take_succ_cons, List.take_zero, List.drop_succ_cons, List.drop_zero]
  iterate 12 (go_big_quiet_step ((go_at_call 21; exact call_same _ (MC _))))
  refine wpQuiet_nil ?_
  intro wd hbd
  have B := Lib.hid (B.out.below hbd)
  clear hbd d0 d1 d2 d3 d4 MC
  have r0 := (B.out.nd.r4).c0; have r1 := (B.out.nd.r4).c1; have r2 := (B.out.nd.r4).c2; have r3 := (B.out.nd.r4).c3; have rf0 := (B.out.nd.r4).f0; have rf1 := (B.out.nd.r4).f1; have rf2 := (B.out.nd.r4).f2; have rf3 := (B.out.nd.r4).f3
  go_wp2_with fail
  exact bodyPost_ret (v := gtV ⟨0, T, b.ub, b.at_⟩) (by simp [results, Try.results20, go_sem, r0, r1, r2, r3, rf0, rf1, rf2, rf3, gtV]) rfl ⟨rfl, set4 B.out.nd.hb (by omega) _ _ _ _⟩
set_option maxRecDepth 100000 in
set_option maxHeartbeats 6400000 in
theorem nd_bin3 (n : Ex) (v o : NV) (res t : Int) (g len cc j : Nat) (w : World) (hj : j < len) (hE : Bx7 w g (j * 7) n) (hk : 8 ≤ n.k) (hk' : n.k ≤ 17) (a b q : Gt) (hu : a.ub = 0) (hv : b.ub = 0) (TC : ∀ W, Calls Try.prog 30 #[exA n, gtV a, gtV b] W fun e' w' => e' = .returned (gtV q) ∧ Below W.heap.size W w') (HA : ∀ W, Below w.heap.size w W → Calls Try.prog 20 #[.slice (some ⟨g, 0, none⟩) len cc, .int .i64 n.a, envA v o res t] W fun e' w' => e' = .returned (gtV a) ∧ Below W.heap.size W w') (HB : ∀ W, Below w.heap.size w W → Calls Try.prog 20 #[.slice (some ⟨g, 0, none⟩) len cc, .int .i64 n.b, envA v o res t] W fun e' w' => e' = .returned (gtV b) ∧ Below W.heap.size W w')  :
    Calls Try.prog 20 #[.slice (some ⟨g, 0, none⟩) len cc, .int .i64 (j : Int), envA v o res t] w fun e' w' => e' = .returned (gtV (q)) ∧ Below w.heap.size w w' := by
  unfold envA gtV at HA HB
  unfold exA gtV at TC
  have HU := Lib.hid hu
  have HV := Lib.hid hv
  clear hu hv
  have k1 : (n.k == 1) = false := by rw [beq_eq_false_iff_ne]; omega
  have k2 : (n.k == 2) = false := by rw [beq_eq_false_iff_ne]; omega
  have k5 : (n.k == 5) = false := by rw [beq_eq_false_iff_ne]; omega
  have k4 : (n.k == 4) = false := by rw [beq_eq_false_iff_ne]; omega
  have k3 : (n.k == 3) = false := by rw [beq_eq_false_iff_ne]; omega
  have k6 : (n.k == 6) = false := by rw [beq_eq_false_iff_ne]; omega
  have k7 : (n.k == 7) = false := by rw [beq_eq_false_iff_ne]; omega
  have k18 : (n.k == 18) = false := by rw [beq_eq_false_iff_ne]; omega
  obtain ⟨kk, hkk⟩ : ∃ k, n.k = k := ⟨_, rfl⟩
  rw [hkk] at hk hk' k1 k2 k5 k4 k3 k6 k7 k18 TC
  have HK := Lib.hid hkk
  have q8 : decide (kk < 8) = false := decide_eq_false (by omega)
  have q17 : decide (17 < kk) = false := decide_eq_false (by omega)
  clear hkk
  obtain ⟨mp, ba, bl, bc⟩ := v
  unfold envA
  simp only at HA HB
  have HE := Lib.hid hE
  have m0 := hE.c0
  have m1 := hE.c1
  have m2 := hE.c2
  have m3 := hE.c3
  have m4 := hE.c4
  have m5 := hE.c5
  have m6 := hE.c6
  have hj0 : (0 : Int) ≤ (j : Int) := by omega
  have hj1 : (j : Int) < (len : Int) := by omega
  have hg0 : g ≠ w.heap.size := by have := hE.lt; omega
  have hg1 : g ≠ w.heap.size + 1 := by have := hE.lt; omega
  clear hE
  simp only
  go_enter Try.func20, Try.ntmps20
  go_upto_region 1 with fail
  refine at_world (fun W => Below w.heap.size w W ∧ W.heap.size = w.heap.size + 1 + 1 ∧ Bx6 W w.heap.size ⟨mp, ba, bl, bc⟩ o res t ∧ Bx4 W (w.heap.size + 1) ⟨0, 0, 0, 0⟩ ∧ Bx7 W g (j * 7) n ∧ ∀ i, W.frozen? ⟨w.heap.size, i, none⟩ = false) ⟨(by repeat' (first | exact Below.refl _ _ | (refine Below.alloc ?_ ?_ _) | (refine Below.setCell ?_ ?_ _) | (refine Below.drew ?_) | (refine below_next ?_ ?_ (by assumption)) | omega | (simp; done) | (simp; omega))), by simp, ⟨by first | (simp; done) | (simp; omega), by simp [go_sem], by simp [go_sem], by simp [go_sem], by simp [go_sem], by simp [go_sem], by simp [go_sem]⟩, ⟨by first | (simp; done) | (simp; omega), by simp [go_sem], by simp [go_sem], by simp [go_sem], by simp [go_sem], by simp [go_sem], by simp [go_sem], by simp [go_sem], by simp [go_sem]⟩, HE.out.below (by repeat' (first | exact Below.refl _ _ | (refine Below.alloc ?_ ?_ _) | (refine Below.setCell ?_ ?_ _) | (refine Below.drew ?_) | (refine below_next ?_ ?_ (by assumption)) | omega | (simp; done) | (simp; omega))), by intro i; simp [go_sem]⟩ ?_
  rintro W0 ⟨hb0, hz0, B6, R4, BE, FE⟩
  clear m0 m1 m2 m3 m4 m5 m6
  have m0 := BE.c0
  have m1 := BE.c1
  have m2 := BE.c2
  have m3 := BE.c3
  have m4 := BE.c4
  have m5 := BE.c5
  have m6 := BE.c6
  go_upto_region 4 with fail
  refine at_world (fun W => NdI w W n ⟨mp, ba, bl, bc⟩ o res t) ⟨below_next hb0 hb0.size (by repeat' (first | exact Below.refl _ _ | (refine Below.alloc ?_ ?_ _) | (refine Below.setCell ?_ ?_ _) | (refine Below.drew ?_) | (refine below_next ?_ ?_ (by assumption)) | omega | (simp; done) | (simp; omega))), B6.below (by repeat' (first | exact Below.refl _ _ | (refine Below.alloc ?_ ?_ _) | (refine Below.setCell ?_ ?_ _) | (refine Below.drew ?_) | (refine below_next ?_ ?_ (by assumption)) | omega | (simp; done) | (simp; omega))), R4.below (by repeat' (first | exact Below.refl _ _ | (refine Below.alloc ?_ ?_ _) | (refine Below.setCell ?_ ?_ _) | (refine Below.drew ?_) | (refine below_next ?_ ?_ (by assumption)) | omega | (simp; done) | (simp; omega))), by rw [← hz0]; exact ⟨by first | (simp; done) | (simp; omega), by simp [go_sem], by simp [go_sem], by simp [go_sem], by simp [go_sem], by simp [go_sem], by simp [go_sem], by simp [go_sem]⟩, fun i => ((Below.frozen (B := W0.heap.size) (w := W0) (by repeat' (first | exact Below.refl _ _ | (refine Below.alloc ?_ ?_ _) | (refine Below.setCell ?_ ?_ _) | (refine Below.drew ?_) | (refine below_next ?_ ?_ (by assumption)) | omega | (simp; done) | (simp; omega))) (p := ⟨w.heap.size, i, none⟩) B6.lt)).trans (FE i)⟩ ?_
  intro W1 N1
  (try simp only [hz0])
  clear m0 m1 m2 m3 m4 m5 m6 hb0 hz0 B6 R4 BE FE
  have N := Lib.hid N1
  have n0 := (N1.b7).c0; have n1 : _ = _ := (N1.b7).box1; have n2 := (N1.b7).box2; have n3 := (N1.b7).box3; have n4 := (N1.b7).box4; have n5 := (N1.b7).box5; have n6 := (N1.b7).box6; have e0 := (N1.b6).c0; have e1 := (N1.b6).c1; have e2 := (N1.b6).c2; have e3 := (N1.b6).c3; have e4 := (N1.b6).c4; have e5 := (N1.b6).c5; have r0 := (N1.r4).c0; have r1 := (N1.r4).c1; have r2 := (N1.r4).c2; have r3 := (N1.r4).c3; have rf0 := (N1.r4).f0; have rf1 := (N1.r4).f1; have rf2 := (N1.r4).f2; have rf3 := (N1.r4).f3
  clear N1
  rw [HK.out] at n0
  have hD : w.heap.size + 1 + 1 < W1.heap.size := N.out.b7.lt
  go_upto_region 22 with (go_at_call 20; refine (HA _ N.out.hb).mono ?_; rintro e' w5 ⟨rfl, hb5⟩; have N := Lib.hid (N.out.below hb5); have hs5 := hb5.size; clear hb5 HA)
  refine at_world (fun W => BnI w W n ⟨mp, ba, bl, bc⟩ o res t w5.heap.size a) ⟨N.out.below (by repeat' (first | exact Below.refl _ _ | (refine Below.alloc ?_ ?_ _) | (refine Below.setCell ?_ ?_ _) | (refine Below.drew ?_) | (refine below_next ?_ ?_ (by assumption)) | omega | (simp; done) | (simp; omega))), ⟨by first | (simp; done) | (simp; omega), by simp [go_sem], by simp [go_sem], by simp [go_sem], by simp [go_sem], by simp [go_sem], by simp [go_sem], by simp [go_sem], by simp [go_sem]⟩, by omega⟩ ?_
  intro W6 B6
  obtain ⟨D3, hD3⟩ : ∃ x, w5.heap.size = x := ⟨_, rfl⟩
  simp only [hD3] at B6 ⊢
  clear hD3 hs5 hD N
  clear n0 n1 n2 n3 n4 n5 n6 e0 e1 e2 e3 e4 e5 r0 r1 r2 r3 rf0 rf1 rf2 rf3
  have B := Lib.hid B6
  have n0 := (B6.nd.b7).c0; have n1 : _ = _ := (B6.nd.b7).box1; have n2 := (B6.nd.b7).box2; have n3 := (B6.nd.b7).box3; have n4 := (B6.nd.b7).box4; have n5 := (B6.nd.b7).box5; have n6 := (B6.nd.b7).box6; have e0 := (B6.nd.b6).c0; have e1 := (B6.nd.b6).c1; have e2 := (B6.nd.b6).c2; have e3 := (B6.nd.b6).c3; have e4 := (B6.nd.b6).c4; have e5 := (B6.nd.b6).c5; have r0 := (B6.nd.r4).c0; have r1 := (B6.nd.r4).c1; have r2 := (B6.nd.r4).c2; have r3 := (B6.nd.r4).c3; have rf0 := (B6.nd.r4).f0; have rf1 := (B6.nd.r4).f1; have rf2 := (B6.nd.r4).f2; have rf3 := (B6.nd.r4).f3
  have x0 := (B6.a4).c0; have x1 := (B6.a4).c1; have x2 := (B6.a4).c2; have x3 := (B6.a4).c3; have xf0 := (B6.a4).f0; have xf1 := (B6.a4).f1; have xf2 := (B6.a4).f2; have xf3 := (B6.a4).f3
  clear B6
  rw [HK.out] at n0
  rw [HU.out] at x2
  go_upto_region 26 with (go_at_call 20; refine (HB _ B.out.nd.hb).mono ?_; rintro e' w7 ⟨rfl, hb7⟩; have B := Lib.hid (B.out.below hb7); have hs7 := hb7.size; clear hb7 HB)
  refine at_world (fun W => BnI w W n ⟨mp, ba, bl, bc⟩ o res t D3 a ∧ Bx4 W w7.heap.size b) ⟨B.out.below (by repeat' (first | exact Below.refl _ _ | (refine Below.alloc ?_ ?_ _) | (refine Below.setCell ?_ ?_ _) | (refine Below.drew ?_) | (refine below_next ?_ ?_ (by assumption)) | omega | (simp; done) | (simp; omega))), ⟨by first | (simp; done) | (simp; omega), by simp [go_sem], by simp [go_sem], by simp [go_sem], by simp [go_sem], by simp [go_sem], by simp [go_sem], by simp [go_sem], by simp [go_sem]⟩⟩ ?_
  rintro W8 ⟨B8, C8⟩
  obtain ⟨D4, hD4⟩ : ∃ x, w7.heap.size = x := ⟨_, rfl⟩
  simp only [hD4] at C8 ⊢
  clear hD4 hs7 B
  clear n0 n1 n2 n3 n4 n5 n6 e0 e1 e2 e3 e4 e5 r0 r1 r2 r3 rf0 rf1 rf2 rf3 x0 xf0 x1 xf1 x2 xf2 x3 xf3
  have B := Lib.hid B8
  have C := Lib.hid C8
  have n0 := (B8.nd.b7).c0; have n1 : _ = _ := (B8.nd.b7).box1; have n2 := (B8.nd.b7).box2; have n3 := (B8.nd.b7).box3; have n4 := (B8.nd.b7).box4; have n5 := (B8.nd.b7).box5; have n6 := (B8.nd.b7).box6; have e0 := (B8.nd.b6).c0; have e1 := (B8.nd.b6).c1; have e2 := (B8.nd.b6).c2; have e3 := (B8.nd.b6).c3; have e4 := (B8.nd.b6).c4; have e5 := (B8.nd.b6).c5; have r0 := (B8.nd.r4).c0; have r1 := (B8.nd.r4).c1; have r2 := (B8.nd.r4).c2; have r3 := (B8.nd.r4).c3; have rf0 := (B8.nd.r4).f0; have rf1 := (B8.nd.r4).f1; have rf2 := (B8.nd.r4).f2; have rf3 := (B8.nd.r4).f3
  have x0 := (B8.a4).c0; have x1 := (B8.a4).c1; have x2 := (B8.a4).c2; have x3 := (B8.a4).c3; have xf0 := (B8.a4).f0; have xf1 := (B8.a4).f1; have xf2 := (B8.a4).f2; have xf3 := (B8.a4).f3
  have y0 := (C8).c0; have y1 := (C8).c1; have y2 := (C8).c2; have y3 := (C8).c3; have yf0 := (C8).f0; have yf1 := (C8).f1; have yf2 := (C8).f2; have yf3 := (C8).f3
  clear B8 C8
  rw [HK.out] at n0
  rw [HU.out] at x2 TC
  rw [HV.out] at y2 TC
  go_wp2_with (go_at_call 30; refine (TC _).mono ?_; rintro e' w9 ⟨rfl, hb9⟩; have B := Lib.hid (B.out.below hb9); have r0 := (B.out.nd.r4).c0; have r1 := (B.out.nd.r4).c1; have r2 := (B.out.nd.r4).c2; have r3 := (B.out.nd.r4).c3; have rf0 := (B.out.nd.r4).f0; have rf1 := (B.out.nd.r4).f1; have rf2 := (B.out.nd.r4).f2; have rf3 := (B.out.nd.r4).f3; clear hb9 TC)
  exact bodyPost_ret (v := gtV q) (by simp [results, Try.results20, go_sem, r0, r1, r2, r3, rf0, rf1, rf2, rf3, gtV]) rfl ⟨rfl, set4 B.out.nd.hb (by omega) _ _ _ _⟩
end Go.Proofs.Ytnnhdkchdjddkaa.C
