/- The reference's value of an expression, nodes, awake: walks -/
import Derived.Test.YtlhenpocaagbjaaEvD
namespace Go.Proofs.Ytlhenpocaagbjaa.C
open Go.RowKit
set_option linter.unusedSimpArgs false
set_option linter.unusedVariables false
/-- What a part of the reference's environment holds. -/
def ROK (w : World) (v : NV) (e : Env0) : Prop :=
  (∃ g, v.ba = some ⟨g, 0, none⟩ ∧ v.bl = e.bs.length ∧ BL w g e.bs) ∧ e.bs.length ≤ 100000 ∧ e.has = true ∧ ∃ p : Nat, v.mp = some ⟨p, 0, none⟩ ∧ ∀ w', Below w.heap.size w w' → ∀ id at' : Int, Calls Try.prog 36 #[.pointer v.mp, .int .i64 id, .int .i64 at'] w' fun e' w'' => ∃ b, e' = .returned (.tuple #[.int .i64 (e.get id at'), .bool b]) ∧ w' = w''
theorem ROK.below {w w' : World} {v : NV} {e : Env0} (h : ROK w v e) (hb : Below w.heap.size w w') : ROK w' v e := by
  obtain ⟨⟨g, h1, h2, h3⟩, h4, h5, p, h6, h7⟩ := h
  exact ⟨⟨g, h1, h2, h3.below hb⟩, h4, h5, p, h6, fun w'' hb2 => h7 w'' (hb.trans (hb2.mono hb.size))⟩
set_option maxRecDepth 100000 in
set_option maxHeartbeats 6400000 in
theorem rv_num (n : Ex) (v o : NV) (res t : Int) (g len cc j : Nat) (w : World) (hj : j < len) (hE : Bx7 w g (j * 7) n) (hk : n.k = 1) :
    Calls Try.prog 25 #[.slice (some ⟨g, 0, none⟩) len cc, .int .i64 (j : Int), envA v o res t] w fun e' w' => e' = .returned (gtV (⟨n.num, n.t, 0, 0⟩)) ∧ Below w.heap.size w w' := by
  have HK : Hid (n.k = 1) := Lib.hid hk
  clear hk
  obtain ⟨mp, ba, bl, bc⟩ := v
  unfold envA
  have HE := Lib.hid hE
  have m0 := hE.c0
  have m1 := hE.c1
  have m2 := hE.c2
  have m3 := hE.c3
  have m4 := hE.c4
  have m5 := hE.c5
  have m6 := hE.c6
  have hj0 : (0 : Int) ≤ (j : Int) := by omega
  have hj1 : (j : Int) < (len : Int) := by omega
  have hg0 : g ≠ w.heap.size := by have := hE.lt; omega
  have hg1 : g ≠ w.heap.size + 1 := by have := hE.lt; omega
  clear hE
  simp only
  go_enter Try.func25, Try.ntmps25
  go_upto_region 1 with fail
  refine at_world (fun W => Below w.heap.size w W ∧ W.heap.size = w.heap.size + 1 + 1 ∧ Bx6 W w.heap.size ⟨mp, ba, bl, bc⟩ o res t ∧ Bx4 W (w.heap.size + 1) ⟨0, 0, 0, 0⟩ ∧ Bx7 W g (j * 7) n ∧ ∀ i, W.frozen? ⟨w.heap.size, i, none⟩ = false) ⟨(by repeat' (first | exact Below.refl _ _ | (refine Below.alloc ?_ ?_ _) | (refine Below.setCell ?_ ?_ _) | (refine Below.drew ?_) | (refine below_next ?_ ?_ (by assumption)) | omega | (simp; done) | (simp; omega))), by simp, ⟨by first | (simp; done) | (simp; omega), by simp [go_sem], by simp [go_sem], by simp [go_sem], by simp [go_sem], by simp [go_sem], by simp [go_sem]⟩, ⟨by first | (simp; done) | (simp; omega), by simp [go_sem], by simp [go_sem], by simp [go_sem], by simp [go_sem], by simp [go_sem], by simp [go_sem], by simp [go_sem], by simp [go_sem]⟩, HE.out.below (by repeat' (first | exact Below.refl _ _ | (refine Below.alloc ?_ ?_ _) | (refine Below.setCell ?_ ?_ _) | (refine Below.drew ?_) | (refine below_next ?_ ?_ (by assumption)) | omega | (simp; done) | (simp; omega))), by intro i; simp [go_sem]⟩ ?_
  rintro W0 ⟨hb0, hz0, B6, R4, BE, FE⟩
  clear m0 m1 m2 m3 m4 m5 m6
  have m0 := BE.c0
  have m1 := BE.c1
  have m2 := BE.c2
  have m3 := BE.c3
  have m4 := BE.c4
  have m5 := BE.c5
  have m6 := BE.c6
  go_upto_region 4 with fail
  refine at_world (fun W => NdI w W n ⟨mp, ba, bl, bc⟩ o res t) ⟨below_next hb0 hb0.size (by repeat' (first | exact Below.refl _ _ | (refine Below.alloc ?_ ?_ _) | (refine Below.setCell ?_ ?_ _) | (refine Below.drew ?_) | (refine below_next ?_ ?_ (by assumption)) | omega | (simp; done) | (simp; omega))), B6.below (by repeat' (first | exact Below.refl _ _ | (refine Below.alloc ?_ ?_ _) | (refine Below.setCell ?_ ?_ _) | (refine Below.drew ?_) | (refine below_next ?_ ?_ (by assumption)) | omega | (simp; done) | (simp; omega))), R4.below (by repeat' (first | exact Below.refl _ _ | (refine Below.alloc ?_ ?_ _) | (refine Below.setCell ?_ ?_ _) | (refine Below.drew ?_) | (refine below_next ?_ ?_ (by assumption)) | omega | (simp; done) | (simp; omega))), by rw [← hz0]; exact ⟨by first | (simp; done) | (simp; omega), by simp [go_sem], by simp [go_sem], by simp [go_sem], by simp [go_sem], by simp [go_sem], by simp [go_sem], by simp [go_sem]⟩, fun i => ((Below.frozen (B := W0.heap.size) (w := W0) (by repeat' (first | exact Below.refl _ _ | (refine Below.alloc ?_ ?_ _) | (refine Below.setCell ?_ ?_ _) | (refine Below.drew ?_) | (refine below_next ?_ ?_ (by assumption)) | omega | (simp; done) | (simp; omega))) (p := ⟨w.heap.size, i, none⟩) B6.lt)).trans (FE i)⟩ ?_
  intro W1 N1
  (try simp only [hz0])
  clear m0 m1 m2 m3 m4 m5 m6 hb0 hz0 B6 R4 BE FE
  have N := Lib.hid N1
  have n0 := (N1.b7).c0; have n1 : _ = _ := (N1.b7).box1; have n2 := (N1.b7).box2; have n3 := (N1.b7).box3; have n4 := (N1.b7).box4; have n5 := (N1.b7).box5; have n6 := (N1.b7).box6; have e0 := (N1.b6).c0; have e1 := (N1.b6).c1; have e2 := (N1.b6).c2; have e3 := (N1.b6).c3; have e4 := (N1.b6).c4; have e5 := (N1.b6).c5; have r0 := (N1.r4).c0; have r1 := (N1.r4).c1; have r2 := (N1.r4).c2; have r3 := (N1.r4).c3; have rf0 := (N1.r4).f0; have rf1 := (N1.r4).f1; have rf2 := (N1.r4).f2; have rf3 := (N1.r4).f3
  clear N1
  rw [HK.out] at n0
  go_wp2_with fail
  exact bodyPost_ret (v := gtV ⟨n.num, n.t, 0, 0⟩) (by simp [results, Try.results25, go_sem, r0, r1, r2, r3, rf0, rf1, rf2, rf3, gtV]) rfl ⟨rfl, set4 N.out.hb (by omega) _ _ _ _⟩
set_option maxRecDepth 100000 in
set_option maxHeartbeats 6400000 in
theorem rv_res (n : Ex) (v o : NV) (res t : Int) (g len cc j : Nat) (w : World) (hj : j < len) (hE : Bx7 w g (j * 7) n) (hk : n.k = 5) :
    Calls Try.prog 25 #[.slice (some ⟨g, 0, none⟩) len cc, .int .i64 (j : Int), envA v o res t] w fun e' w' => e' = .returned (gtV (⟨res, t, 0, 0⟩)) ∧ Below w.heap.size w w' := by
  have HK : Hid (n.k = 5) := Lib.hid hk
  clear hk
  obtain ⟨mp, ba, bl, bc⟩ := v
  unfold envA
  have HE := Lib.hid hE
  have m0 := hE.c0
  have m1 := hE.c1
  have m2 := hE.c2
  have m3 := hE.c3
  have m4 := hE.c4
  have m5 := hE.c5
  have m6 := hE.c6
  have hj0 : (0 : Int) ≤ (j : Int) := by omega
  have hj1 : (j : Int) < (len : Int) := by omega
  have hg0 : g ≠ w.heap.size := by have := hE.lt; omega
  have hg1 : g ≠ w.heap.size + 1 := by have := hE.lt; omega
  clear hE
  simp only
  go_enter Try.func25, Try.ntmps25
  go_upto_region 1 with fail
  refine at_world (fun W => Below w.heap.size w W ∧ W.heap.size = w.heap.size + 1 + 1 ∧ Bx6 W w.heap.size ⟨mp, ba, bl, bc⟩ o res t ∧ Bx4 W (w.heap.size + 1) ⟨0, 0, 0, 0⟩ ∧ Bx7 W g (j * 7) n ∧ ∀ i, W.frozen? ⟨w.heap.size, i, none⟩ = false) ⟨(by repeat' (first | exact Below.refl _ _ | (refine Below.alloc ?_ ?_ _) | (refine Below.setCell ?_ ?_ _) | (refine Below.drew ?_) | (refine below_next ?_ ?_ (by assumption)) | omega | (simp; done) | (simp; omega))), by simp, ⟨by first | (simp; done) | (simp; omega), by simp [go_sem], by simp [go_sem], by simp [go_sem], by simp [go_sem], by simp [go_sem], by simp [go_sem]⟩, ⟨by first | (simp; done) | (simp; omega), by simp [go_sem], by simp [go_sem], by simp [go_sem], by simp [go_sem], by simp [go_sem], by simp [go_sem], by simp [go_sem], by simp [go_sem]⟩, HE.out.below (by repeat' (first | exact Below.refl _ _ | (refine Below.alloc ?_ ?_ _) | (refine Below.setCell ?_ ?_ _) | (refine Below.drew ?_) | (refine below_next ?_ ?_ (by assumption)) | omega | (simp; done) | (simp; omega))), by intro i; simp [go_sem]⟩ ?_
  rintro W0 ⟨hb0, hz0, B6, R4, BE, FE⟩
  clear m0 m1 m2 m3 m4 m5 m6
  have m0 := BE.c0
  have m1 := BE.c1
  have m2 := BE.c2
  have m3 := BE.c3
  have m4 := BE.c4
  have m5 := BE.c5
  have m6 := BE.c6
  go_upto_region 4 with fail
  refine at_world (fun W => NdI w W n ⟨mp, ba, bl, bc⟩ o res t) ⟨below_next hb0 hb0.size (by repeat' (first | exact Below.refl _ _ | (refine Below.alloc ?_ ?_ _) | (refine Below.setCell ?_ ?_ _) | (refine Below.drew ?_) | (refine below_next ?_ ?_ (by assumption)) | omega | (simp; done) | (simp; omega))), B6.below (by repeat' (first | exact Below.refl _ _ | (refine Below.alloc ?_ ?_ _) | (refine Below.setCell ?_ ?_ _) | (refine Below.drew ?_) | (refine below_next ?_ ?_ (by assumption)) | omega | (simp; done) | (simp; omega))), R4.below (by repeat' (first | exact Below.refl _ _ | (refine Below.alloc ?_ ?_ _) | (refine Below.setCell ?_ ?_ _) | (refine Below.drew ?_) | (refine below_next ?_ ?_ (by assumption)) | omega | (simp; done) | (simp; omega))), by rw [← hz0]; exact ⟨by first | (simp; done) | (simp; omega), by simp [go_sem], by simp [go_sem], by simp [go_sem], by simp [go_sem], by simp [go_sem], by simp [go_sem], by simp [go_sem]⟩, fun i => ((Below.frozen (B := W0.heap.size) (w := W0) (by repeat' (first | exact Below.refl _ _ | (refine Below.alloc ?_ ?_ _) | (refine Below.setCell ?_ ?_ _) | (refine Below.drew ?_) | (refine below_next ?_ ?_ (by assumption)) | omega | (simp; done) | (simp; omega))) (p := ⟨w.heap.size, i, none⟩) B6.lt)).trans (FE i)⟩ ?_
  intro W1 N1
  (try simp only [hz0])
  clear m0 m1 m2 m3 m4 m5 m6 hb0 hz0 B6 R4 BE FE
  have N := Lib.hid N1
  have n0 := (N1.b7).c0; have n1 : _ = _ := (N1.b7).box1; have n2 := (N1.b7).box2; have n3 := (N1.b7).box3; have n4 := (N1.b7).box4; have n5 := (N1.b7).box5; have n6 := (N1.b7).box6; have e0 := (N1.b6).c0; have e1 := (N1.b6).c1; have e2 := (N1.b6).c2; have e3 := (N1.b6).c3; have e4 := (N1.b6).c4; have e5 := (N1.b6).c5; have r0 := (N1.r4).c0; have r1 := (N1.r4).c1; have r2 := (N1.r4).c2; have r3 := (N1.r4).c3; have rf0 := (N1.r4).f0; have rf1 := (N1.r4).f1; have rf2 := (N1.r4).f2; have rf3 := (N1.r4).f3
  clear N1
  rw [HK.out] at n0
  go_wp2_with fail
  exact bodyPost_ret (v := gtV ⟨res, t, 0, 0⟩) (by simp [results, Try.results25, go_sem, r0, r1, r2, r3, rf0, rf1, rf2, rf3, gtV]) rfl ⟨rfl, set4 N.out.hb (by omega) _ _ _ _⟩
set_option maxRecDepth 100000 in
set_option maxHeartbeats 6400000 in
theorem rv_old (n : Ex) (v o : NV) (res t : Int) (g len cc j : Nat) (w : World) (hj : j < len) (hE : Bx7 w g (j * 7) n) (hk : n.k = 4) (q : Gt) (NC : ∀ W, Below w.heap.size w W → Calls Try.prog 25 #[.slice (some ⟨g, 0, none⟩) len cc, .int .i64 n.a, envA o o res t] W fun e' w' => e' = .returned (gtV q) ∧ Below W.heap.size W w') :
    Calls Try.prog 25 #[.slice (some ⟨g, 0, none⟩) len cc, .int .i64 (j : Int), envA v o res t] w fun e' w' => e' = .returned (gtV (q)) ∧ Below w.heap.size w w' := by
  have HK : Hid (n.k = 4) := Lib.hid hk
  clear hk
  unfold envA gtV at NC
  obtain ⟨mp, ba, bl, bc⟩ := v
  unfold envA
  have HE := Lib.hid hE
  have m0 := hE.c0
  have m1 := hE.c1
  have m2 := hE.c2
  have m3 := hE.c3
  have m4 := hE.c4
  have m5 := hE.c5
  have m6 := hE.c6
  have hj0 : (0 : Int) ≤ (j : Int) := by omega
  have hj1 : (j : Int) < (len : Int) := by omega
  have hg0 : g ≠ w.heap.size := by have := hE.lt; omega
  have hg1 : g ≠ w.heap.size + 1 := by have := hE.lt; omega
  clear hE
  simp only
  go_enter Try.func25, Try.ntmps25
  go_upto_region 1 with fail
  refine at_world (fun W => Below w.heap.size w W ∧ W.heap.size = w.heap.size + 1 + 1 ∧ Bx6 W w.heap.size ⟨mp, ba, bl, bc⟩ o res t ∧ Bx4 W (w.heap.size + 1) ⟨0, 0, 0, 0⟩ ∧ Bx7 W g (j * 7) n ∧ ∀ i, W.frozen? ⟨w.heap.size, i, none⟩ = false) ⟨(by repeat' (first | exact Below.refl _ _ | (refine Below.alloc ?_ ?_ _) | (refine Below.setCell ?_ ?_ _) | (refine Below.drew ?_) | (refine below_next ?_ ?_ (by assumption)) | omega | (simp; done) | (simp; omega))), by simp, ⟨by first | (simp; done) | (simp; omega), by simp [go_sem], by simp [go_sem], by simp [go_sem], by simp [go_sem], by simp [go_sem], by simp [go_sem]⟩, ⟨by first | (simp; done) | (simp; omega), by simp [go_sem], by simp [go_sem], by simp [go_sem], by simp [go_sem], by simp [go_sem], by simp [go_sem], by simp [go_sem], by simp [go_sem]⟩, HE.out.below (by repeat' (first | exact Below.refl _ _ | (refine Below.alloc ?_ ?_ _) | (refine Below.setCell ?_ ?_ _) | (refine Below.drew ?_) | (refine below_next ?_ ?_ (by assumption)) | omega | (simp; done) | (simp; omega))), by intro i; simp [go_sem]⟩ ?_
  rintro W0 ⟨hb0, hz0, B6, R4, BE, FE⟩
  clear m0 m1 m2 m3 m4 m5 m6
  have m0 := BE.c0
  have m1 := BE.c1
  have m2 := BE.c2
  have m3 := BE.c3
  have m4 := BE.c4
  have m5 := BE.c5
  have m6 := BE.c6
  go_upto_region 4 with fail
  refine at_world (fun W => NdI w W n ⟨mp, ba, bl, bc⟩ o res t) ⟨below_next hb0 hb0.size (by repeat' (first | exact Below.refl _ _ | (refine Below.alloc ?_ ?_ _) | (refine Below.setCell ?_ ?_ _) | (refine Below.drew ?_) | (refine below_next ?_ ?_ (by assumption)) | omega | (simp; done) | (simp; omega))), B6.below (by repeat' (first | exact Below.refl _ _ | (refine Below.alloc ?_ ?_ _) | (refine Below.setCell ?_ ?_ _) | (refine Below.drew ?_) | (refine below_next ?_ ?_ (by assumption)) | omega | (simp; done) | (simp; omega))), R4.below (by repeat' (first | exact Below.refl _ _ | (refine Below.alloc ?_ ?_ _) | (refine Below.setCell ?_ ?_ _) | (refine Below.drew ?_) | (refine below_next ?_ ?_ (by assumption)) | omega | (simp; done) | (simp; omega))), by rw [← hz0]; exact ⟨by first | (simp; done) | (simp; omega), by simp [go_sem], by simp [go_sem], by simp [go_sem], by simp [go_sem], by simp [go_sem], by simp [go_sem], by simp [go_sem]⟩, fun i => ((Below.frozen (B := W0.heap.size) (w := W0) (by repeat' (first | exact Below.refl _ _ | (refine Below.alloc ?_ ?_ _) | (refine Below.setCell ?_ ?_ _) | (refine Below.drew ?_) | (refine below_next ?_ ?_ (by assumption)) | omega | (simp; done) | (simp; omega))) (p := ⟨w.heap.size, i, none⟩) B6.lt)).trans (FE i)⟩ ?_
  intro W1 N1
  (try simp only [hz0])
  clear m0 m1 m2 m3 m4 m5 m6 hb0 hz0 B6 R4 BE FE
  have N := Lib.hid N1
  have n0 := (N1.b7).c0; have n1 : _ = _ := (N1.b7).box1; have n2 := (N1.b7).box2; have n3 := (N1.b7).box3; have n4 := (N1.b7).box4; have n5 := (N1.b7).box5; have n6 := (N1.b7).box6; have e0 := (N1.b6).c0; have e1 := (N1.b6).c1; have e2 := (N1.b6).c2; have e3 := (N1.b6).c3; have e4 := (N1.b6).c4; have e5 := (N1.b6).c5; have r0 := (N1.r4).c0; have r1 := (N1.r4).c1; have r2 := (N1.r4).c2; have r3 := (N1.r4).c3; have rf0 := (N1.r4).f0; have rf1 := (N1.r4).f1; have rf2 := (N1.r4).f2; have rf3 := (N1.r4).f3
  clear N1
  rw [HK.out] at n0
  go_wp2_with (go_at_call 25; refine (NC _ N.out.hb).mono ?_; rintro e' w5 ⟨rfl, hb5⟩; have N := Lib.hid (N.out.below hb5); have r0 := (N.out.r4).c0; have r1 := (N.out.r4).c1; have r2 := (N.out.r4).c2; have r3 := (N.out.r4).c3; have rf0 := (N.out.r4).f0; have rf1 := (N.out.r4).f1; have rf2 := (N.out.r4).f2; have rf3 := (N.out.r4).f3; clear hb5 NC)
  exact bodyPost_ret (v := gtV q) (by simp [results, Try.results25, go_sem, r0, r1, r2, r3, rf0, rf1, rf2, rf3, gtV]) rfl ⟨rfl, set4 N.out.hb (by omega) _ _ _ _⟩
set_option maxRecDepth 100000 in
set_option maxHeartbeats 6400000 in
theorem rv_elem (n : Ex) (v o : NV) (res t : Int) (g len cc j : Nat) (w : World) (hj : j < len) (hE : Bx7 w g (j * 7) n) (hk : n.k = 3) (q : Gt) (NC : ∀ W, Below w.heap.size w W → Calls Try.prog 41 #[.slice (some ⟨g, 0, none⟩) len cc, exA n, envA v o res t] W fun e' w' => e' = .returned (gtV q) ∧ Below W.heap.size W w') :
    Calls Try.prog 25 #[.slice (some ⟨g, 0, none⟩) len cc, .int .i64 (j : Int), envA v o res t] w fun e' w' => e' = .returned (gtV (q)) ∧ Below w.heap.size w w' := by
  have HK : Hid (n.k = 3) := Lib.hid hk
  clear hk
  unfold exA envA gtV at NC
  obtain ⟨mp, ba, bl, bc⟩ := v
  unfold envA
  simp only at NC
  have HE := Lib.hid hE
  have m0 := hE.c0
  have m1 := hE.c1
  have m2 := hE.c2
  have m3 := hE.c3
  have m4 := hE.c4
  have m5 := hE.c5
  have m6 := hE.c6
  have hj0 : (0 : Int) ≤ (j : Int) := by omega
  have hj1 : (j : Int) < (len : Int) := by omega
  have hg0 : g ≠ w.heap.size := by have := hE.lt; omega
  have hg1 : g ≠ w.heap.size + 1 := by have := hE.lt; omega
  clear hE
  simp only
  go_enter Try.func25, Try.ntmps25
  go_upto_region 1 with fail
  refine at_world (fun W => Below w.heap.size w W ∧ W.heap.size = w.heap.size + 1 + 1 ∧ Bx6 W w.heap.size ⟨mp, ba, bl, bc⟩ o res t ∧ Bx4 W (w.heap.size + 1) ⟨0, 0, 0, 0⟩ ∧ Bx7 W g (j * 7) n ∧ ∀ i, W.frozen? ⟨w.heap.size, i, none⟩ = false) ⟨(by repeat' (first | exact Below.refl _ _ | (refine Below.alloc ?_ ?_ _) | (refine Below.setCell ?_ ?_ _) | (refine Below.drew ?_) | (refine below_next ?_ ?_ (by assumption)) | omega | (simp; done) | (simp; omega))), by simp, ⟨by first | (simp; done) | (simp; omega), by simp [go_sem], by simp [go_sem], by simp [go_sem], by simp [go_sem], by simp [go_sem], by simp [go_sem]⟩, ⟨by first | (simp; done) | (simp; omega), by simp [go_sem], by simp [go_sem], by simp [go_sem], by simp [go_sem], by simp [go_sem], by simp [go_sem], by simp [go_sem], by simp [go_sem]⟩, HE.out.below (by repeat' (first | exact Below.refl _ _ | (refine Below.alloc ?_ ?_ _) | (refine Below.setCell ?_ ?_ _) | (refine Below.drew ?_) | (refine below_next ?_ ?_ (by assumption)) | omega | (simp; done) | (simp; omega))), by intro i; simp [go_sem]⟩ ?_
  rintro W0 ⟨hb0, hz0, B6, R4, BE, FE⟩
  clear m0 m1 m2 m3 m4 m5 m6
  have m0 := BE.c0
  have m1 := BE.c1
  have m2 := BE.c2
  have m3 := BE.c3
  have m4 := BE.c4
  have m5 := BE.c5
  have m6 := BE.c6
  go_upto_region 4 with fail
  refine at_world (fun W => NdI w W n ⟨mp, ba, bl, bc⟩ o res t) ⟨below_next hb0 hb0.size (by repeat' (first | exact Below.refl _ _ | (refine Below.alloc ?_ ?_ _) | (refine Below.setCell ?_ ?_ _) | (refine Below.drew ?_) | (refine below_next ?_ ?_ (by assumption)) | omega | (simp; done) | (simp; omega))), B6.below (by repeat' (first | exact Below.refl _ _ | (refine Below.alloc ?_ ?_ _) | (refine Below.setCell ?_ ?_ _) | (refine Below.drew ?_) | (refine below_next ?_ ?_ (by assumption)) | omega | (simp; done) | (simp; omega))), R4.below (by repeat' (first | exact Below.refl _ _ | (refine Below.alloc ?_ ?_ _) | (refine Below.setCell ?_ ?_ _) | (refine Below.drew ?_) | (refine below_next ?_ ?_ (by assumption)) | omega | (simp; done) | (simp; omega))), by rw [← hz0]; exact ⟨by first | (simp; done) | (simp; omega), by simp [go_sem], by simp [go_sem], by simp [go_sem], by simp [go_sem], by simp [go_sem], by simp [go_sem], by simp [go_sem]⟩, fun i => ((Below.frozen (B := W0.heap.size) (w := W0) (by repeat' (first | exact Below.refl _ _ | (refine Below.alloc ?_ ?_ _) | (refine Below.setCell ?_ ?_ _) | (refine Below.drew ?_) | (refine below_next ?_ ?_ (by assumption)) | omega | (simp; done) | (simp; omega))) (p := ⟨w.heap.size, i, none⟩) B6.lt)).trans (FE i)⟩ ?_
  intro W1 N1
  (try simp only [hz0])
  clear m0 m1 m2 m3 m4 m5 m6 hb0 hz0 B6 R4 BE FE
  have N := Lib.hid N1
  have n0 := (N1.b7).c0; have n1 : _ = _ := (N1.b7).box1; have n2 := (N1.b7).box2; have n3 := (N1.b7).box3; have n4 := (N1.b7).box4; have n5 := (N1.b7).box5; have n6 := (N1.b7).box6; have e0 := (N1.b6).c0; have e1 := (N1.b6).c1; have e2 := (N1.b6).c2; have e3 := (N1.b6).c3; have e4 := (N1.b6).c4; have e5 := (N1.b6).c5; have r0 := (N1.r4).c0; have r1 := (N1.r4).c1; have r2 := (N1.r4).c2; have r3 := (N1.r4).c3; have rf0 := (N1.r4).f0; have rf1 := (N1.r4).f1; have rf2 := (N1.r4).f2; have rf3 := (N1.r4).f3
  clear N1
  rw [HK.out] at n0
  rw [HK.out] at NC
  go_wp2_with (go_at_call 41; refine (NC _ N.out.hb).mono ?_; rintro e' w5 ⟨rfl, hb5⟩; have N := Lib.hid (N.out.below hb5); have r0 := (N.out.r4).c0; have r1 := (N.out.r4).c1; have r2 := (N.out.r4).c2; have r3 := (N.out.r4).c3; have rf0 := (N.out.r4).f0; have rf1 := (N.out.r4).f1; have rf2 := (N.out.r4).f2; have rf3 := (N.out.r4).f3; clear hb5 NC)
  exact bodyPost_ret (v := gtV q) (by simp [results, Try.results25, go_sem, r0, r1, r2, r3, rf0, rf1, rf2, rf3, gtV]) rfl ⟨rfl, set4 N.out.hb (by omega) _ _ _ _⟩
set_option maxRecDepth 100000 in
set_option maxHeartbeats 6400000 in
theorem rv_node (n : Ex) (v o : NV) (res t : Int) (g len cc j : Nat) (w : World) (hj : j < len) (hE : Bx7 w g (j * 7) n) (h1 : n.k ≠ 1) (h2 : n.k ≠ 2) (h3 : n.k ≠ 3) (h4 : n.k ≠ 4) (h5 : n.k ≠ 5) (q : Gt) (NC : ∀ W, Below w.heap.size w W → Calls Try.prog 42 #[.slice (some ⟨g, 0, none⟩) len cc, exA n, envA v o res t] W fun e' w' => e' = .returned (gtV q) ∧ Below W.heap.size W w') :
    Calls Try.prog 25 #[.slice (some ⟨g, 0, none⟩) len cc, .int .i64 (j : Int), envA v o res t] w fun e' w' => e' = .returned (gtV (q)) ∧ Below w.heap.size w w' := by
  have k1 : (n.k == 1) = false := by rw [beq_eq_false_iff_ne]; omega
  have k2 : (n.k == 2) = false := by rw [beq_eq_false_iff_ne]; omega
  have k3 : (n.k == 3) = false := by rw [beq_eq_false_iff_ne]; omega
  have k4 : (n.k == 4) = false := by rw [beq_eq_false_iff_ne]; omega
  have k5 : (n.k == 5) = false := by rw [beq_eq_false_iff_ne]; omega
  unfold exA envA gtV at NC
  obtain ⟨kk, hkk⟩ : ∃ k, n.k = k := ⟨_, rfl⟩
  rw [hkk] at k1 k2 k3 k4 k5
  have HK := Lib.hid hkk
  clear hkk h1 h2 h3 h4 h5
  obtain ⟨mp, ba, bl, bc⟩ := v
  unfold envA
  simp only at NC
  have HE := Lib.hid hE
  have m0 := hE.c0
  have m1 := hE.c1
  have m2 := hE.c2
  have m3 := hE.c3
  have m4 := hE.c4
  have m5 := hE.c5
  have m6 := hE.c6
  have hj0 : (0 : Int) ≤ (j : Int) := by omega
  have hj1 : (j : Int) < (len : Int) := by omega
  have hg0 : g ≠ w.heap.size := by have := hE.lt; omega
  have hg1 : g ≠ w.heap.size + 1 := by have := hE.lt; omega
  clear hE
  simp only
  go_enter Try.func25, Try.ntmps25
  go_upto_region 1 with fail
  refine at_world (fun W => Below w.heap.size w W ∧ W.heap.size = w.heap.size + 1 + 1 ∧ Bx6 W w.heap.size ⟨mp, ba, bl, bc⟩ o res t ∧ Bx4 W (w.heap.size + 1) ⟨0, 0, 0, 0⟩ ∧ Bx7 W g (j * 7) n ∧ ∀ i, W.frozen? ⟨w.heap.size, i, none⟩ = false) ⟨(by repeat' (first | exact Below.refl _ _ | (refine Below.alloc ?_ ?_ _) | (refine Below.setCell ?_ ?_ _) | (refine Below.drew ?_) | (refine below_next ?_ ?_ (by assumption)) | omega | (simp; done) | (simp; omega))), by simp, ⟨by first | (simp; done) | (simp; omega), by simp [go_sem], by simp [go_sem], by simp [go_sem], by simp [go_sem], by simp [go_sem], by simp [go_sem]⟩, ⟨by first | (simp; done) | (simp; omega), by simp [go_sem], by simp [go_sem], by simp [go_sem], by simp [go_sem], by simp [go_sem], by simp [go_sem], by simp [go_sem], by simp [go_sem]⟩, HE.out.below (by repeat' (first | exact Below.refl _ _ | (refine Below.alloc ?_ ?_ _) | (refine Below.setCell ?_ ?_ _) | (refine Below.drew ?_) | (refine below_next ?_ ?_ (by assumption)) | omega | (simp; done) | (simp; omega))), by intro i; simp [go_sem]⟩ ?_
  rintro W0 ⟨hb0, hz0, B6, R4, BE, FE⟩
  clear m0 m1 m2 m3 m4 m5 m6
  have m0 := BE.c0
  have m1 := BE.c1
  have m2 := BE.c2
  have m3 := BE.c3
  have m4 := BE.c4
  have m5 := BE.c5
  have m6 := BE.c6
  go_upto_region 4 with fail
  refine at_world (fun W => NdI w W n ⟨mp, ba, bl, bc⟩ o res t) ⟨below_next hb0 hb0.size (by repeat' (first | exact Below.refl _ _ | (refine Below.alloc ?_ ?_ _) | (refine Below.setCell ?_ ?_ _) | (refine Below.drew ?_) | (refine below_next ?_ ?_ (by assumption)) | omega | (simp; done) | (simp; omega))), B6.below (by repeat' (first | exact Below.refl _ _ | (refine Below.alloc ?_ ?_ _) | (refine Below.setCell ?_ ?_ _) | (refine Below.drew ?_) | (refine below_next ?_ ?_ (by assumption)) | omega | (simp; done) | (simp; omega))), R4.below (by repeat' (first | exact Below.refl _ _ | (refine Below.alloc ?_ ?_ _) | (refine Below.setCell ?_ ?_ _) | (refine Below.drew ?_) | (refine below_next ?_ ?_ (by assumption)) | omega | (simp; done) | (simp; omega))), by rw [← hz0]; exact ⟨by first | (simp; done) | (simp; omega), by simp [go_sem], by simp [go_sem], by simp [go_sem], by simp [go_sem], by simp [go_sem], by simp [go_sem], by simp [go_sem]⟩, fun i => ((Below.frozen (B := W0.heap.size) (w := W0) (by repeat' (first | exact Below.refl _ _ | (refine Below.alloc ?_ ?_ _) | (refine Below.setCell ?_ ?_ _) | (refine Below.drew ?_) | (refine below_next ?_ ?_ (by assumption)) | omega | (simp; done) | (simp; omega))) (p := ⟨w.heap.size, i, none⟩) B6.lt)).trans (FE i)⟩ ?_
  intro W1 N1
  (try simp only [hz0])
  clear m0 m1 m2 m3 m4 m5 m6 hb0 hz0 B6 R4 BE FE
  have N := Lib.hid N1
  have n0 := (N1.b7).c0; have n1 : _ = _ := (N1.b7).box1; have n2 := (N1.b7).box2; have n3 := (N1.b7).box3; have n4 := (N1.b7).box4; have n5 := (N1.b7).box5; have n6 := (N1.b7).box6; have e0 := (N1.b6).c0; have e1 := (N1.b6).c1; have e2 := (N1.b6).c2; have e3 := (N1.b6).c3; have e4 := (N1.b6).c4; have e5 := (N1.b6).c5; have r0 := (N1.r4).c0; have r1 := (N1.r4).c1; have r2 := (N1.r4).c2; have r3 := (N1.r4).c3; have rf0 := (N1.r4).f0; have rf1 := (N1.r4).f1; have rf2 := (N1.r4).f2; have rf3 := (N1.r4).f3
  clear N1
  rw [HK.out] at n0
  rw [HK.out] at NC
  go_wp2_with (go_at_call 42; refine (NC _ N.out.hb).mono ?_; rintro e' w5 ⟨rfl, hb5⟩; have N := Lib.hid (N.out.below hb5); have r0 := (N.out.r4).c0; have r1 := (N.out.r4).c1; have r2 := (N.out.r4).c2; have r3 := (N.out.r4).c3; have rf0 := (N.out.r4).f0; have rf1 := (N.out.r4).f1; have rf2 := (N.out.r4).f2; have rf3 := (N.out.r4).f3; clear hb5 NC)
  exact bodyPost_ret (v := gtV q) (by simp [results, Try.results25, go_sem, r0, r1, r2, r3, rf0, rf1, rf2, rf3, gtV]) rfl ⟨rfl, set4 N.out.hb (by omega) _ _ _ _⟩
set_option maxRecDepth 100000 in
set_option maxHeartbeats 6400000 in
theorem rv_var (n : Ex) (v o : NV) (res t : Int) (g len cc j : Nat) (w : World) (hj : j < len) (hE : Bx7 w g (j * 7) n) (hk : n.k = 2) (e : Env0) (h : ROK w v e) :
    Calls Try.prog 25 #[.slice (some ⟨g, 0, none⟩) len cc, .int .i64 (j : Int), envA v o res t] w fun e' w' => e' = .returned (gtV (nameP e n 0)) ∧ Below w.heap.size w w' := by
  have HK : Hid (n.k = 2) := Lib.hid hk
  clear hk
  obtain ⟨⟨gb, hba, hbl, hBL⟩, h2, hhas, p, hmp, hg⟩ := h
  obtain ⟨lb, hlb⟩ : ∃ x, lastB e.bs (nmB n.nm) e.bs.length = x := ⟨_, rfl⟩
  have HB : ∀ W, Below w.heap.size w W → Calls Try.prog 40 #[.slice v.ba v.bl v.bc, .string (nmB n.nm)] W fun e' w' => e' = .returned (bindV lb) ∧ Below W.heap.size W w' := fun W hb => by rw [hba, hbl]; exact (last_c gb v.bc e.bs (nmB n.nm) W (hBL.below hb) h2).mono (fun e' w' hh => ⟨by rw [hh.1, hlb, bindV_eq], hh.2⟩)
  have HG := Lib.hid hg
  have HMP := Lib.hid hmp
  cases lb with
  | none =>
    have HQ : nameP e n 0 = ⟨0, 5, 0, 0⟩ := by unfold nameP; rw [hlb]
    rw [HQ]
    simp only [bindV] at HB
    clear HQ hlb hBL hba hbl h2 hhas hmp hg
    obtain ⟨mp, ba, bl, bc⟩ := v
    unfold envA
    simp only at HB
    have HE := Lib.hid hE
    have m0 := hE.c0
    have m1 := hE.c1
    have m2 := hE.c2
    have m3 := hE.c3
    have m4 := hE.c4
    have m5 := hE.c5
    have m6 := hE.c6
    have hj0 : (0 : Int) ≤ (j : Int) := by omega
    have hj1 : (j : Int) < (len : Int) := by omega
    have hg0 : g ≠ w.heap.size := by have := hE.lt; omega
    have hg1 : g ≠ w.heap.size + 1 := by have := hE.lt; omega
    clear hE
    simp only
    go_enter Try.func25, Try.ntmps25
    go_upto_region 1 with fail
    refine at_world (fun W => Below w.heap.size w W ∧ W.heap.size = w.heap.size + 1 + 1 ∧ Bx6 W w.heap.size ⟨mp, ba, bl, bc⟩ o res t ∧ Bx4 W (w.heap.size + 1) ⟨0, 0, 0, 0⟩ ∧ Bx7 W g (j * 7) n ∧ ∀ i, W.frozen? ⟨w.heap.size, i, none⟩ = false) ⟨(by repeat' (first | exact Below.refl _ _ | (refine Below.alloc ?_ ?_ _) | (refine Below.setCell ?_ ?_ _) | (refine Below.drew ?_) | (refine below_next ?_ ?_ (by assumption)) | omega | (simp; done) | (simp; omega))), by simp, ⟨by first | (simp; done) | (simp; omega), by simp [go_sem], by simp [go_sem], by simp [go_sem], by simp [go_sem], by simp [go_sem], by simp [go_sem]⟩, ⟨by first | (simp; done) | (simp; omega), by simp [go_sem], by simp [go_sem], by simp [go_sem], by simp [go_sem], by simp [go_sem], by simp [go_sem], by simp [go_sem], by simp [go_sem]⟩, HE.out.below (by repeat' (first | exact Below.refl _ _ | (refine Below.alloc ?_ ?_ _) | (refine Below.setCell ?_ ?_ _) | (refine Below.drew ?_) | (refine below_next ?_ ?_ (by assumption)) | omega | (simp; done) | (simp; omega))), by intro i; simp [go_sem]⟩ ?_
    rintro W0 ⟨hb0, hz0, B6, R4, BE, FE⟩
    clear m0 m1 m2 m3 m4 m5 m6
    have m0 := BE.c0
    have m1 := BE.c1
    have m2 := BE.c2
    have m3 := BE.c3
    have m4 := BE.c4
    have m5 := BE.c5
    have m6 := BE.c6
    go_upto_region 4 with fail
    refine at_world (fun W => NdI w W n ⟨mp, ba, bl, bc⟩ o res t) ⟨below_next hb0 hb0.size (by repeat' (first | exact Below.refl _ _ | (refine Below.alloc ?_ ?_ _) | (refine Below.setCell ?_ ?_ _) | (refine Below.drew ?_) | (refine below_next ?_ ?_ (by assumption)) | omega | (simp; done) | (simp; omega))), B6.below (by repeat' (first | exact Below.refl _ _ | (refine Below.alloc ?_ ?_ _) | (refine Below.setCell ?_ ?_ _) | (refine Below.drew ?_) | (refine below_next ?_ ?_ (by assumption)) | omega | (simp; done) | (simp; omega))), R4.below (by repeat' (first | exact Below.refl _ _ | (refine Below.alloc ?_ ?_ _) | (refine Below.setCell ?_ ?_ _) | (refine Below.drew ?_) | (refine below_next ?_ ?_ (by assumption)) | omega | (simp; done) | (simp; omega))), by rw [← hz0]; exact ⟨by first | (simp; done) | (simp; omega), by simp [go_sem], by simp [go_sem], by simp [go_sem], by simp [go_sem], by simp [go_sem], by simp [go_sem], by simp [go_sem]⟩, fun i => ((Below.frozen (B := W0.heap.size) (w := W0) (by repeat' (first | exact Below.refl _ _ | (refine Below.alloc ?_ ?_ _) | (refine Below.setCell ?_ ?_ _) | (refine Below.drew ?_) | (refine below_next ?_ ?_ (by assumption)) | omega | (simp; done) | (simp; omega))) (p := ⟨w.heap.size, i, none⟩) B6.lt)).trans (FE i)⟩ ?_
    intro W1 N1
    (try simp only [hz0])
    clear m0 m1 m2 m3 m4 m5 m6 hb0 hz0 B6 R4 BE FE
    have N := Lib.hid N1
    have n0 := (N1.b7).c0; have n1 : _ = _ := (N1.b7).box1; have n2 := (N1.b7).box2; have n3 := (N1.b7).box3; have n4 := (N1.b7).box4; have n5 := (N1.b7).box5; have n6 := (N1.b7).box6; have e0 := (N1.b6).c0; have e1 := (N1.b6).c1; have e2 := (N1.b6).c2; have e3 := (N1.b6).c3; have e4 := (N1.b6).c4; have e5 := (N1.b6).c5; have r0 := (N1.r4).c0; have r1 := (N1.r4).c1; have r2 := (N1.r4).c2; have r3 := (N1.r4).c3; have rf0 := (N1.r4).f0; have rf1 := (N1.r4).f1; have rf2 := (N1.r4).f2; have rf3 := (N1.r4).f3
    clear N1
    rw [HK.out] at n0
    go_upto_region 9 with (go_at_call 40; refine (HB _ N.out.hb).mono ?_; rintro e' w5 ⟨rfl, hb5⟩; have N := Lib.hid (N.out.below hb5); clear hb5 HB)
    refine at_world (fun W => NdI w W n ⟨mp, ba, bl, bc⟩ o res t) (N.out.below (by repeat' (first | exact Below.refl _ _ | (refine Below.alloc ?_ ?_ _) | (refine Below.setCell ?_ ?_ _) | (refine Below.drew ?_) | (refine below_next ?_ ?_ (by assumption)) | omega | (simp; done) | (simp; omega)))) ?_
    intro W6 N6
    clear n0 n1 n2 n3 n4 n5 n6 e0 e1 e2 e3 e4 e5 r0 r1 r2 r3 rf0 rf1 rf2 rf3 N
    have N := Lib.hid N6
    have n0 := (N6.b7).c0; have n1 : _ = _ := (N6.b7).box1; have n2 := (N6.b7).box2; have n3 := (N6.b7).box3; have n4 := (N6.b7).box4; have n5 := (N6.b7).box5; have n6 := (N6.b7).box6; have e0 := (N6.b6).c0; have e1 := (N6.b6).c1; have e2 := (N6.b6).c2; have e3 := (N6.b6).c3; have e4 := (N6.b6).c4; have e5 := (N6.b6).c5; have r0 := (N6.r4).c0; have r1 := (N6.r4).c1; have r2 := (N6.r4).c2; have r3 := (N6.r4).c3; have rf0 := (N6.r4).f0; have rf1 := (N6.r4).f1; have rf2 := (N6.r4).f2; have rf3 := (N6.r4).f3
    clear N6
    go_wp2_with fail
    exact bodyPost_ret (v := gtV ⟨0, 5, 0, 0⟩) (by simp [results, Try.results25, go_sem, r0, r1, r2, r3, rf0, rf1, rf2, rf3, gtV]) rfl ⟨rfl, set4 N.out.hb (by omega) _ _ _ _⟩
  | some b =>
    have HQ : nameP e n 0 = ⟨e.get b.id 0, b.t, 0, 0⟩ := by
      unfold nameP
      rw [hlb]
      simp only
      rw [if_neg (by rw [hhas]; simp), if_neg (by split <;> omega)]
    rw [HQ]
    simp only [bindV] at HB
    clear HQ hlb hBL hba hbl h2 hhas hmp hg
    obtain ⟨mp, ba, bl, bc⟩ := v
    unfold envA
    simp only at HB HG HMP
    have hmp := HMP.out
    subst hmp
    have HE := Lib.hid hE
    have m0 := hE.c0
    have m1 := hE.c1
    have m2 := hE.c2
    have m3 := hE.c3
    have m4 := hE.c4
    have m5 := hE.c5
    have m6 := hE.c6
    have hj0 : (0 : Int) ≤ (j : Int) := by omega
    have hj1 : (j : Int) < (len : Int) := by omega
    have hg0 : g ≠ w.heap.size := by have := hE.lt; omega
    have hg1 : g ≠ w.heap.size + 1 := by have := hE.lt; omega
    clear hE
    simp only
    go_enter Try.func25, Try.ntmps25
    go_upto_region 1 with fail
    refine at_world (fun W => Below w.heap.size w W ∧ W.heap.size = w.heap.size + 1 + 1 ∧ Bx6 W w.heap.size ⟨some ⟨p, 0, none⟩, ba, bl, bc⟩ o res t ∧ Bx4 W (w.heap.size + 1) ⟨0, 0, 0, 0⟩ ∧ Bx7 W g (j * 7) n ∧ ∀ i, W.frozen? ⟨w.heap.size, i, none⟩ = false) ⟨(by repeat' (first | exact Below.refl _ _ | (refine Below.alloc ?_ ?_ _) | (refine Below.setCell ?_ ?_ _) | (refine Below.drew ?_) | (refine below_next ?_ ?_ (by assumption)) | omega | (simp; done) | (simp; omega))), by simp, ⟨by first | (simp; done) | (simp; omega), by simp [go_sem], by simp [go_sem], by simp [go_sem], by simp [go_sem], by simp [go_sem], by simp [go_sem]⟩, ⟨by first | (simp; done) | (simp; omega), by simp [go_sem], by simp [go_sem], by simp [go_sem], by simp [go_sem], by simp [go_sem], by simp [go_sem], by simp [go_sem], by simp [go_sem]⟩, HE.out.below (by repeat' (first | exact Below.refl _ _ | (refine Below.alloc ?_ ?_ _) | (refine Below.setCell ?_ ?_ _) | (refine Below.drew ?_) | (refine below_next ?_ ?_ (by assumption)) | omega | (simp; done) | (simp; omega))), by intro i; simp [go_sem]⟩ ?_
    rintro W0 ⟨hb0, hz0, B6, R4, BE, FE⟩
    clear m0 m1 m2 m3 m4 m5 m6
    have m0 := BE.c0
    have m1 := BE.c1
    have m2 := BE.c2
    have m3 := BE.c3
    have m4 := BE.c4
    have m5 := BE.c5
    have m6 := BE.c6
    go_upto_region 4 with fail
    refine at_world (fun W => NdI w W n ⟨some ⟨p, 0, none⟩, ba, bl, bc⟩ o res t) ⟨below_next hb0 hb0.size (by repeat' (first | exact Below.refl _ _ | (refine Below.alloc ?_ ?_ _) | (refine Below.setCell ?_ ?_ _) | (refine Below.drew ?_) | (refine below_next ?_ ?_ (by assumption)) | omega | (simp; done) | (simp; omega))), B6.below (by repeat' (first | exact Below.refl _ _ | (refine Below.alloc ?_ ?_ _) | (refine Below.setCell ?_ ?_ _) | (refine Below.drew ?_) | (refine below_next ?_ ?_ (by assumption)) | omega | (simp; done) | (simp; omega))), R4.below (by repeat' (first | exact Below.refl _ _ | (refine Below.alloc ?_ ?_ _) | (refine Below.setCell ?_ ?_ _) | (refine Below.drew ?_) | (refine below_next ?_ ?_ (by assumption)) | omega | (simp; done) | (simp; omega))), by rw [← hz0]; exact ⟨by first | (simp; done) | (simp; omega), by simp [go_sem], by simp [go_sem], by simp [go_sem], by simp [go_sem], by simp [go_sem], by simp [go_sem], by simp [go_sem]⟩, fun i => ((Below.frozen (B := W0.heap.size) (w := W0) (by repeat' (first | exact Below.refl _ _ | (refine Below.alloc ?_ ?_ _) | (refine Below.setCell ?_ ?_ _) | (refine Below.drew ?_) | (refine below_next ?_ ?_ (by assumption)) | omega | (simp; done) | (simp; omega))) (p := ⟨w.heap.size, i, none⟩) B6.lt)).trans (FE i)⟩ ?_
    intro W1 N1
    (try simp only [hz0])
    clear m0 m1 m2 m3 m4 m5 m6 hb0 hz0 B6 R4 BE FE
    have N := Lib.hid N1
    have n0 := (N1.b7).c0; have n1 : _ = _ := (N1.b7).box1; have n2 := (N1.b7).box2; have n3 := (N1.b7).box3; have n4 := (N1.b7).box4; have n5 := (N1.b7).box5; have n6 := (N1.b7).box6; have e0 := (N1.b6).c0; have e1 := (N1.b6).c1; have e2 := (N1.b6).c2; have e3 := (N1.b6).c3; have e4 := (N1.b6).c4; have e5 := (N1.b6).c5; have r0 := (N1.r4).c0; have r1 := (N1.r4).c1; have r2 := (N1.r4).c2; have r3 := (N1.r4).c3; have rf0 := (N1.r4).f0; have rf1 := (N1.r4).f1; have rf2 := (N1.r4).f2; have rf3 := (N1.r4).f3
    clear N1
    rw [HK.out] at n0
    go_upto_region 9 with (go_at_call 40; refine (HB _ N.out.hb).mono ?_; rintro e' w5 ⟨rfl, hb5⟩; have N := Lib.hid (N.out.below hb5); clear hb5 HB)
    refine at_world (fun W => NdI w W n ⟨some ⟨p, 0, none⟩, ba, bl, bc⟩ o res t ∧ BxB W w5.heap.size b) ⟨N.out.below (by repeat' (first | exact Below.refl _ _ | (refine Below.alloc ?_ ?_ _) | (refine Below.setCell ?_ ?_ _) | (refine Below.drew ?_) | (refine below_next ?_ ?_ (by assumption)) | omega | (simp; done) | (simp; omega))), ⟨by first | (simp; done) | (simp; omega), by simp [go_sem], by simp [go_sem], by simp [go_sem]⟩⟩ ?_
    rintro W6 ⟨N6, B6⟩
    obtain ⟨D3, hD3⟩ : ∃ x, w5.heap.size = x := ⟨_, rfl⟩
    simp only [hD3] at B6 ⊢
    clear n0 n1 n2 n3 n4 n5 n6 e0 e1 e2 e3 e4 e5 r0 r1 r2 r3 rf0 rf1 rf2 rf3 N hD3
    have N := Lib.hid N6
    have n0 := (N6.b7).c0; have n1 : _ = _ := (N6.b7).box1; have n2 := (N6.b7).box2; have n3 := (N6.b7).box3; have n4 := (N6.b7).box4; have n5 := (N6.b7).box5; have n6 := (N6.b7).box6; have e0 := (N6.b6).c0; have e1 := (N6.b6).c1; have e2 := (N6.b6).c2; have e3 := (N6.b6).c3; have e4 := (N6.b6).c4; have e5 := (N6.b6).c5; have r0 := (N6.r4).c0; have r1 := (N6.r4).c1; have r2 := (N6.r4).c2; have r3 := (N6.r4).c3; have rf0 := (N6.r4).f0; have rf1 := (N6.r4).f1; have rf2 := (N6.r4).f2; have rf3 := (N6.r4).f3
    have b1 := B6.c1
    have b2 := B6.c2
    have b3 := B6.c3
    clear N6 B6
    have HGG := HG.out W6 N.out.hb b.id 0
    go_wp2_with (go_at_call 36; refine HGG.mono ?_; rintro e' w9 ⟨ok, rfl, rfl⟩)
    exact bodyPost_ret (v := gtV ⟨e.get b.id 0, b.t, 0, 0⟩) (by simp [results, Try.results25, go_sem, r0, r1, r2, r3, rf0, rf1, rf2, rf3, gtV]) rfl ⟨rfl, set4 N.out.hb (by omega) _ _ _ _⟩
end Go.Proofs.Ytlhenpocaagbjaa.C

namespace Go.Proofs.Ytlhenpocaagbjaa.C
open Go.RowKit
set_option linter.unusedSimpArgs false
set_option linter.unusedVariables false
theorem Bx4.set {W : World} {D : Nat} {g : Gt} (h : Bx4 W D g) (g' : Gt) : Bx4 ((((W.setCell ⟨D, 0, none⟩ (.int .i64 g'.v)).setCell ⟨D, 1, none⟩ (.int .i64 g'.t)).setCell ⟨D, 2, none⟩ (.int .i64 g'.ub)).setCell ⟨D, 3, none⟩ (.int .i64 g'.at_)) D g' := by
  have h0 := h.c0
  have h1 := h.c1
  have h2 := h.c2
  have h3 := h.c3
  have f0 := h.f0
  have f1 := h.f1
  have f2 := h.f2
  have f3 := h.f3
  have hl := h.lt
  constructor <;> simp [go_sem, *]
theorem Bx4.setV {W : World} {D : Nat} {g : Gt} (h : Bx4 W D g) (v : Int) : Bx4 (W.setCell ⟨D, 0, none⟩ (.int .i64 v)) D ⟨v, g.t, g.ub, g.at_⟩ := by
  have h0 := h.c0
  have h1 := h.c1
  have h2 := h.c2
  have h3 := h.c3
  have f0 := h.f0
  have f1 := h.f1
  have f2 := h.f2
  have f3 := h.f3
  have hl := h.lt
  constructor <;> simp [go_sem, *]
theorem OnI.sets {w W : World} {n : Ex} {v o : NV} {res t : Int} {D3 D4 : Nat} {a d : Gt} (h : OnI w W n v o res t D3 D4 a d) (q : Addr) (hq : q.block = D4) (u : Value) (d' : Gt) (hd : Bx4 (W.setCell q u) D4 d') : OnI w (W.setCell q u) n v o res t D3 D4 a d' := by
  have h3 := h.h3
  have h4 := h.h4
  exact ⟨h.hb.setCell (by omega) _, h.b7.other (by omega) _, h.b6.other (by omega) _, h.r4.other (by omega) _, h.a4.other (by omega) _, hd, h.h3, h.h4⟩
theorem OnI.set {w W : World} {n : Ex} {v o : NV} {res t : Int} {D3 D4 : Nat} {a d : Gt} (h : OnI w W n v o res t D3 D4 a d) (g' : Gt) : OnI w ((((W.setCell ⟨D4, 0, none⟩ (.int .i64 g'.v)).setCell ⟨D4, 1, none⟩ (.int .i64 g'.t)).setCell ⟨D4, 2, none⟩ (.int .i64 g'.ub)).setCell ⟨D4, 3, none⟩ (.int .i64 g'.at_)) n v o res t D3 D4 a g' := by
  have h3 := h.h3
  have h4 := h.h4
  refine ⟨(((h.hb.setCell (p := ⟨D4, 0, none⟩) (by show _ ≤ D4; omega) _).setCell (p := ⟨D4, 1, none⟩) (by show _ ≤ D4; omega) _).setCell (p := ⟨D4, 2, none⟩) (by show _ ≤ D4; omega) _).setCell (p := ⟨D4, 3, none⟩) (by show _ ≤ D4; omega) _, ?_, ?_, ?_, ?_, h.d4.set g', h.h3, h.h4⟩
  · exact (((h.b7.other (by show D4 ≠ _; omega) _).other (by show D4 ≠ _; omega) _).other (by show D4 ≠ _; omega) _).other (by show D4 ≠ _; omega) _
  · exact (((h.b6.other (by show D4 ≠ _; omega) _).other (by show D4 ≠ _; omega) _).other (by show D4 ≠ _; omega) _).other (by show D4 ≠ _; omega) _
  · exact (((h.r4.other (by show D4 ≠ _; omega) _).other (by show D4 ≠ _; omega) _).other (by show D4 ≠ _; omega) _).other (by show D4 ≠ _; omega) _
  · exact (((h.a4.other (by show D4 ≠ _; omega) _).other (by show D4 ≠ _; omega) _).other (by show D4 ≠ _; omega) _).other (by show D4 ≠ _; omega) _
theorem OnI.setV {w W : World} {n : Ex} {v o : NV} {res t : Int} {D3 D4 : Nat} {a d : Gt} (h : OnI w W n v o res t D3 D4 a d) (u : Int) : OnI w (W.setCell ⟨D4, 0, none⟩ (.int .i64 u)) n v o res t D3 D4 a ⟨u, d.t, d.ub, d.at_⟩ := h.sets ⟨D4, 0, none⟩ rfl _ _ (h.d4.setV u)
set_option maxRecDepth 100000 in
set_option maxHeartbeats 6400000 in
theorem relem_c (n : Ex) (v o : NV) (res t : Int) (e : Env0) (A : Option Addr) (len cc : Nat) (a : Gt) (w : World) (h : ROK w v e) (IH : ∀ W, Below w.heap.size w W → Calls Try.prog 25 #[.slice A len cc, .int .i64 n.a, envA v o res t] W fun e' w' => e' = .returned (gtV a) ∧ Below W.heap.size W w') :
    Calls Try.prog 41 #[.slice A len cc, exA n, envA v o res t] w fun e' w' => e' = .returned (gtV (elemP e n a)) ∧ Below w.heap.size w w' := by
  obtain ⟨⟨gb, hba, hbl, hBL⟩, h2, hhas, p, hmp, hg⟩ := h
  obtain ⟨lb, hlb⟩ : ∃ x, lastB e.bs (nmB n.nm) e.bs.length = x := ⟨_, rfl⟩
  have HB : ∀ W, Below w.heap.size w W → Calls Try.prog 40 #[.slice v.ba v.bl v.bc, .string (nmB n.nm)] W fun e' w' => e' = .returned (bindV lb) ∧ Below W.heap.size W w' := fun W hb => by rw [hba, hbl]; exact (last_c gb v.bc e.bs (nmB n.nm) W (hBL.below hb) h2).mono (fun e' w' hh => ⟨by rw [hh.1, hlb, bindV_eq], hh.2⟩)
  obtain ⟨mp, ba, bl, bc⟩ := v
  simp only at hmp hba hbl hg HB
  subst hmp
  obtain ⟨q, hq⟩ : ∃ q, elemP e n a = q := ⟨_, rfl⟩
  have HC : (lb = none ∧ ((a.ub = 0 ∧ q = ⟨0, 5, 0, 0⟩) ∨ ((a.ub == 0) = false ∧ q = ⟨0, 5, a.ub, a.at_⟩))) ∨ (∃ b, lb = some b ∧ (((a.ub == 0) = false ∧ q = ⟨0, b.t, a.ub, a.at_⟩) ∨ (a.ub = 0 ∧ a.v < 0 ∧ q = ⟨0, b.t, 4, n.at_⟩) ∨ (a.ub = 0 ∧ 0 ≤ a.v ∧ (if 1 < b.size then b.size else 1) ≤ a.v ∧ q = ⟨0, b.t, 4, n.at_⟩) ∨ (a.ub = 0 ∧ 0 ≤ a.v ∧ a.v < (if 1 < b.size then b.size else 1) ∧ q = ⟨e.get b.id a.v, b.t, 0, 0⟩))) := by
    rw [← hq]
    unfold elemP nameP nmTy
    rw [hlb]
    have nh : ¬ e.has = false := by rw [hhas]; simp
    cases lb with
    | none =>
      refine .inl ⟨rfl, ?_⟩
      by_cases hu : a.ub = 0
      · exact .inl ⟨hu, by rw [if_pos hu]⟩
      · exact .inr ⟨by rw [beq_eq_false_iff_ne]; exact hu, by rw [if_neg hu]⟩
    | some b =>
      refine .inr ⟨b, rfl, ?_⟩
      by_cases hu : a.ub = 0
      · refine .inr ?_
        simp only [if_pos hu, if_neg nh]
        by_cases h3 : a.v < 0
        · exact .inl ⟨hu, h3, by rw [if_pos (.inl h3)]⟩
        · by_cases h4 : (if 1 < b.size then b.size else 1) ≤ a.v
          · exact .inr (.inl ⟨hu, by omega, h4, by rw [if_pos (.inr h4)]⟩)
          · exact .inr (.inr ⟨hu, by omega, by omega, by rw [if_neg (by intro x; rcases x with x | x; exact h3 x; exact h4 x)]⟩)
      · exact .inl ⟨by rw [beq_eq_false_iff_ne]; exact hu, by simp only [if_neg hu, if_neg nh]⟩
  have HG := Lib.hid hg
  rw [hq]
  clear hq hlb hba hbl hBL h2 hhas hg
  unfold exA envA
  have IH2 : ∀ W, Below w.heap.size w W → Calls Try.prog 25 #[.slice A len cc, .int .i64 n.a, .agg #[.pointer (some ⟨p, 0, none⟩), .slice ba bl bc, .pointer o.mp, .slice o.ba o.bl o.bc, .int .i64 res, .int .i64 t]] W fun e' w' => e' = .returned (.agg #[.int .i64 a.v, .int .i64 a.t, .int .i64 a.ub, .int .i64 a.at_]) ∧ Below W.heap.size W w' := IH
  clear IH
  have HC2 := Lib.hid HC
  clear HC
  simp only
  rcases HC2.out with ⟨rfl, HC⟩ | ⟨b, rfl, HC⟩
  · simp only [bindV] at HB
    clear HC2
    go_enter Try.func41, Try.ntmps41
    go_upto_region 1 with fail
    refine at_world (fun W => NmI w W n ⟨some ⟨p, 0, none⟩, ba, bl, bc⟩ o res t) ⟨(by repeat' (first | exact Below.refl _ _ | (refine Below.alloc ?_ ?_ _) | (refine Below.setCell ?_ ?_ _) | (refine Below.drew ?_) | (refine below_next ?_ ?_ (by assumption)) | omega | (simp; done) | (simp; omega))), ⟨by first | (simp; done) | (simp; omega), by simp [go_sem], by simp [go_sem], by simp [go_sem], by simp [go_sem], by simp [go_sem], by simp [go_sem], by simp [go_sem]⟩, ⟨by first | (simp; done) | (simp; omega), by simp [go_sem], by simp [go_sem], by simp [go_sem], by simp [go_sem], by simp [go_sem], by simp [go_sem]⟩, ⟨by first | (simp; done) | (simp; omega), by simp [go_sem], by simp [go_sem], by simp [go_sem], by simp [go_sem], by simp [go_sem], by simp [go_sem], by simp [go_sem], by simp [go_sem]⟩⟩ ?_
    intro W0 N0
    have N := Lib.hid N0
    have n0 := (N0.b7).c0; have n1 : _ = _ := (N0.b7).box1; have n2 := (N0.b7).box2; have n3 := (N0.b7).box3; have n4 := (N0.b7).box4; have n5 := (N0.b7).box5; have n6 := (N0.b7).box6
    have e0 := (N0.b6).c0; have e1 := (N0.b6).c1; have e2 := (N0.b6).c2; have e3 := (N0.b6).c3; have e4 := (N0.b6).c4; have e5 := (N0.b6).c5
    clear N0
    go_upto_region 2 with (go_at_call 25; refine (IH2 _ N.out.hb).mono ?_; rintro e' w1 ⟨rfl, hb1⟩; have N := Lib.hid (N.out.below hb1); clear hb1 IH2)
    refine at_world (fun W => NmI w W n ⟨some ⟨p, 0, none⟩, ba, bl, bc⟩ o res t ∧ Bx4 W w1.heap.size a) ⟨N.out.below (by repeat' (first | exact Below.refl _ _ | (refine Below.alloc ?_ ?_ _) | (refine Below.setCell ?_ ?_ _) | (refine Below.drew ?_) | (refine below_next ?_ ?_ (by assumption)) | omega | (simp; done) | (simp; omega))), ⟨by first | (simp; done) | (simp; omega), by simp [go_sem], by simp [go_sem], by simp [go_sem], by simp [go_sem], by simp [go_sem], by simp [go_sem], by simp [go_sem], by simp [go_sem]⟩⟩ ?_
    intro W4 N4
    obtain ⟨D3, hD3⟩ : ∃ x, w1.heap.size = x := ⟨_, rfl⟩
    simp only [hD3] at N4 ⊢
    clear hD3 N n0 n1 n2 n3 n4 n5 n6 e0 e1 e2 e3 e4 e5
    have N := Lib.hid N4
    have n0 := (N4.1.b7).c0; have n1 : _ = _ := (N4.1.b7).box1; have n2 := (N4.1.b7).box2; have n3 := (N4.1.b7).box3; have n4 := (N4.1.b7).box4; have n5 := (N4.1.b7).box5; have n6 := (N4.1.b7).box6; have e0 := (N4.1.b6).c0; have e1 := (N4.1.b6).c1; have e2 := (N4.1.b6).c2; have e3 := (N4.1.b6).c3; have e4 := (N4.1.b6).c4; have e5 := (N4.1.b6).c5; have r0 := (N4.1.b4).c0; have r1 := (N4.1.b4).c1; have r2 := (N4.1.b4).c2; have r3 := (N4.1.b4).c3; have rf0 := (N4.1.b4).f0; have rf1 := (N4.1.b4).f1; have rf2 := (N4.1.b4).f2; have rf3 := (N4.1.b4).f3; have x0 := (N4.2).c0; have x1 := (N4.2).c1; have x2 := (N4.2).c2; have x3 := (N4.2).c3; have xf0 := (N4.2).f0; have xf1 := (N4.2).f1; have xf2 := (N4.2).f2; have xf3 := (N4.2).f3
    clear N4
    go_upto_region 3 with (go_at_call 40; refine (HB _ N.out.1.hb).mono ?_; rintro e' w5 ⟨rfl, hb5⟩; have N := Lib.hid (And.intro (N.out.1.below hb5) (N.out.2.below hb5)); clear hb5 HB)
    refine at_world (fun W => NmI w W n ⟨some ⟨p, 0, none⟩, ba, bl, bc⟩ o res t ∧ Bx4 W D3 a) ⟨N.out.1.below (by repeat' (first | exact Below.refl _ _ | (refine Below.alloc ?_ ?_ _) | (refine Below.setCell ?_ ?_ _) | (refine Below.drew ?_) | (refine below_next ?_ ?_ (by assumption)) | omega | (simp; done) | (simp; omega))), N.out.2.below (by repeat' (first | exact Below.refl _ _ | (refine Below.alloc ?_ ?_ _) | (refine Below.setCell ?_ ?_ _) | (refine Below.drew ?_) | (refine below_next ?_ ?_ (by assumption)) | omega | (simp; done) | (simp; omega)))⟩ ?_
    intro W6 N6
    clear N n0 n1 n2 n3 n4 n5 n6 e0 e1 e2 e3 e4 e5 r0 r1 r2 r3 rf0 rf1 rf2 rf3 x0 x1 x2 x3 xf0 xf1 xf2 xf3
    have N := Lib.hid N6
    have n0 := (N6.1.b7).c0; have n1 : _ = _ := (N6.1.b7).box1; have n2 := (N6.1.b7).box2; have n3 := (N6.1.b7).box3; have n4 := (N6.1.b7).box4; have n5 := (N6.1.b7).box5; have n6 := (N6.1.b7).box6; have e0 := (N6.1.b6).c0; have e1 := (N6.1.b6).c1; have e2 := (N6.1.b6).c2; have e3 := (N6.1.b6).c3; have e4 := (N6.1.b6).c4; have e5 := (N6.1.b6).c5; have r0 := (N6.1.b4).c0; have r1 := (N6.1.b4).c1; have r2 := (N6.1.b4).c2; have r3 := (N6.1.b4).c3; have rf0 := (N6.1.b4).f0; have rf1 := (N6.1.b4).f1; have rf2 := (N6.1.b4).f2; have rf3 := (N6.1.b4).f3; have x0 := (N6.2).c0; have x1 := (N6.2).c1; have x2 := (N6.2).c2; have x3 := (N6.2).c3; have xf0 := (N6.2).f0; have xf1 := (N6.2).f1; have xf2 := (N6.2).f2; have xf3 := (N6.2).f3
    clear N6
    rcases HC with ⟨hu, rfl⟩ | ⟨hu, rfl⟩
    · rw [hu] at x2
      clear hu
      go_wp2_with fail
      exact bodyPost_ret (v := gtV ⟨0, 5, 0, 0⟩) (by simp [results, Try.results41, go_sem, r0, r1, r2, r3, rf0, rf1, rf2, rf3, gtV]) rfl ⟨rfl, set4 N.out.1.hb (by omega) _ _ _ _⟩
    · have hu' : (a.ub != 0) = true := by rw [bne, hu]; rfl
      go_wp2_with fail
      exact bodyPost_ret (v := gtV ⟨0, 5, a.ub, a.at_⟩) (by simp [results, Try.results41, go_sem, r0, r1, r2, r3, rf0, rf1, rf2, rf3, gtV]) rfl ⟨rfl, set4 N.out.1.hb (by omega) _ _ _ _⟩
  · simp only [bindV] at HB
    clear HC2
    obtain ⟨mx, hmx⟩ : ∃ x, (if 1 < b.size then b.size else 1) = x := ⟨_, rfl⟩
    rw [hmx] at HC
    go_enter Try.func41, Try.ntmps41
    go_upto_region 1 with fail
    refine at_world (fun W => NmI w W n ⟨some ⟨p, 0, none⟩, ba, bl, bc⟩ o res t) ⟨(by repeat' (first | exact Below.refl _ _ | (refine Below.alloc ?_ ?_ _) | (refine Below.setCell ?_ ?_ _) | (refine Below.drew ?_) | (refine below_next ?_ ?_ (by assumption)) | omega | (simp; done) | (simp; omega))), ⟨by first | (simp; done) | (simp; omega), by simp [go_sem], by simp [go_sem], by simp [go_sem], by simp [go_sem], by simp [go_sem], by simp [go_sem], by simp [go_sem]⟩, ⟨by first | (simp; done) | (simp; omega), by simp [go_sem], by simp [go_sem], by simp [go_sem], by simp [go_sem], by simp [go_sem], by simp [go_sem]⟩, ⟨by first | (simp; done) | (simp; omega), by simp [go_sem], by simp [go_sem], by simp [go_sem], by simp [go_sem], by simp [go_sem], by simp [go_sem], by simp [go_sem], by simp [go_sem]⟩⟩ ?_
    intro W0 N0
    have N := Lib.hid N0
    have n0 := (N0.b7).c0; have n1 : _ = _ := (N0.b7).box1; have n2 := (N0.b7).box2; have n3 := (N0.b7).box3; have n4 := (N0.b7).box4; have n5 := (N0.b7).box5; have n6 := (N0.b7).box6
    have e0 := (N0.b6).c0; have e1 := (N0.b6).c1; have e2 := (N0.b6).c2; have e3 := (N0.b6).c3; have e4 := (N0.b6).c4; have e5 := (N0.b6).c5
    clear N0
    go_upto_region 2 with (go_at_call 25; refine (IH2 _ N.out.hb).mono ?_; rintro e' w1 ⟨rfl, hb1⟩; have N := Lib.hid (N.out.below hb1); clear hb1 IH2)
    refine at_world (fun W => NmI w W n ⟨some ⟨p, 0, none⟩, ba, bl, bc⟩ o res t ∧ Bx4 W w1.heap.size a) ⟨N.out.below (by repeat' (first | exact Below.refl _ _ | (refine Below.alloc ?_ ?_ _) | (refine Below.setCell ?_ ?_ _) | (refine Below.drew ?_) | (refine below_next ?_ ?_ (by assumption)) | omega | (simp; done) | (simp; omega))), ⟨by first | (simp; done) | (simp; omega), by simp [go_sem], by simp [go_sem], by simp [go_sem], by simp [go_sem], by simp [go_sem], by simp [go_sem], by simp [go_sem], by simp [go_sem]⟩⟩ ?_
    intro W4 N4
    obtain ⟨D3, hD3⟩ : ∃ x, w1.heap.size = x := ⟨_, rfl⟩
    simp only [hD3] at N4 ⊢
    clear hD3 N n0 n1 n2 n3 n4 n5 n6 e0 e1 e2 e3 e4 e5
    have N := Lib.hid N4
    have n0 := (N4.1.b7).c0; have n1 : _ = _ := (N4.1.b7).box1; have n2 := (N4.1.b7).box2; have n3 := (N4.1.b7).box3; have n4 := (N4.1.b7).box4; have n5 := (N4.1.b7).box5; have n6 := (N4.1.b7).box6; have e0 := (N4.1.b6).c0; have e1 := (N4.1.b6).c1; have e2 := (N4.1.b6).c2; have e3 := (N4.1.b6).c3; have e4 := (N4.1.b6).c4; have e5 := (N4.1.b6).c5; have r0 := (N4.1.b4).c0; have r1 := (N4.1.b4).c1; have r2 := (N4.1.b4).c2; have r3 := (N4.1.b4).c3; have rf0 := (N4.1.b4).f0; have rf1 := (N4.1.b4).f1; have rf2 := (N4.1.b4).f2; have rf3 := (N4.1.b4).f3; have x0 := (N4.2).c0; have x1 := (N4.2).c1; have x2 := (N4.2).c2; have x3 := (N4.2).c3; have xf0 := (N4.2).f0; have xf1 := (N4.2).f1; have xf2 := (N4.2).f2; have xf3 := (N4.2).f3
    clear N4
    go_upto_region 3 with (go_at_call 40; refine (HB _ N.out.1.hb).mono ?_; rintro e' w5 ⟨rfl, hb5⟩; have N := Lib.hid (And.intro (N.out.1.below hb5) (N.out.2.below hb5)); clear hb5 HB)
    refine at_world (fun W => (NmI w W n ⟨some ⟨p, 0, none⟩, ba, bl, bc⟩ o res t ∧ Bx4 W D3 a) ∧ BxB W w5.heap.size b) ⟨⟨N.out.1.below (by repeat' (first | exact Below.refl _ _ | (refine Below.alloc ?_ ?_ _) | (refine Below.setCell ?_ ?_ _) | (refine Below.drew ?_) | (refine below_next ?_ ?_ (by assumption)) | omega | (simp; done) | (simp; omega))), N.out.2.below (by repeat' (first | exact Below.refl _ _ | (refine Below.alloc ?_ ?_ _) | (refine Below.setCell ?_ ?_ _) | (refine Below.drew ?_) | (refine below_next ?_ ?_ (by assumption)) | omega | (simp; done) | (simp; omega)))⟩, ⟨by first | (simp; done) | (simp; omega), by simp [go_sem], by simp [go_sem], by simp [go_sem]⟩⟩ ?_
    rintro W6 ⟨N6, B6⟩
    obtain ⟨D4, hD4⟩ : ∃ x, w5.heap.size = x := ⟨_, rfl⟩
    simp only [hD4] at B6 ⊢
    clear hD4 N n0 n1 n2 n3 n4 n5 n6 e0 e1 e2 e3 e4 e5 r0 r1 r2 r3 rf0 rf1 rf2 rf3 x0 x1 x2 x3 xf0 xf1 xf2 xf3
    have N := Lib.hid N6
    have n0 := (N6.1.b7).c0; have n1 : _ = _ := (N6.1.b7).box1; have n2 := (N6.1.b7).box2; have n3 := (N6.1.b7).box3; have n4 := (N6.1.b7).box4; have n5 := (N6.1.b7).box5; have n6 := (N6.1.b7).box6; have e0 := (N6.1.b6).c0; have e1 := (N6.1.b6).c1; have e2 := (N6.1.b6).c2; have e3 := (N6.1.b6).c3; have e4 := (N6.1.b6).c4; have e5 := (N6.1.b6).c5; have r0 := (N6.1.b4).c0; have r1 := (N6.1.b4).c1; have r2 := (N6.1.b4).c2; have r3 := (N6.1.b4).c3; have rf0 := (N6.1.b4).f0; have rf1 := (N6.1.b4).f1; have rf2 := (N6.1.b4).f2; have rf3 := (N6.1.b4).f3; have x0 := (N6.2).c0; have x1 := (N6.2).c1; have x2 := (N6.2).c2; have x3 := (N6.2).c3; have xf0 := (N6.2).f0; have xf1 := (N6.2).f1; have xf2 := (N6.2).f2; have xf3 := (N6.2).f3
    have b1 := B6.c1
    have b2 := B6.c2
    have b3 := B6.c3
    clear N6 B6
    rcases HC with ⟨hu, rfl⟩ | ⟨hu, h3, rfl⟩ | ⟨hu, h3, h4, rfl⟩ | ⟨hu, h3, h4, rfl⟩
    · have hu' : (a.ub != 0) = true := by rw [bne, hu]; rfl
      go_wp2_with fail
      exact bodyPost_ret (v := gtV ⟨0, b.t, a.ub, a.at_⟩) (by simp [results, Try.results41, go_sem, r0, r1, r2, r3, rf0, rf1, rf2, rf3, gtV]) rfl ⟨rfl, set4 N.out.1.hb (by omega) _ _ _ _⟩
    · rw [hu] at x2
      clear hu
      go_wp2_with fail
      exact bodyPost_ret (v := gtV ⟨0, b.t, 4, n.at_⟩) (by simp [results, Try.results41, go_sem, r0, r1, r2, r3, rf0, rf1, rf2, rf3, gtV]) rfl ⟨rfl, set4 N.out.1.hb (by omega) _ _ _ _⟩
    · rw [hu] at x2
      clear hu
      have g0 : decide (a.v < 0) = false := decide_eq_false (by omega)
      go_wp2_with fail
      exact bodyPost_ret (v := gtV ⟨0, b.t, 4, n.at_⟩) (by simp [results, Try.results41, go_sem, r0, r1, r2, r3, rf0, rf1, rf2, rf3, gtV]) rfl ⟨rfl, set4 N.out.1.hb (by omega) _ _ _ _⟩
    · rw [hu] at x2
      clear hu
      have g0 : decide (a.v < 0) = false := decide_eq_false (by omega)
      have g1 : decide (mx ≤ a.v) = false := decide_eq_false (by omega)
      have HGG := HG.out W6 N.out.1.hb b.id a.v
      go_wp2_with (go_at_call 36; refine HGG.mono ?_; rintro e' w9 ⟨ok, rfl, rfl⟩)
      exact bodyPost_ret (v := gtV ⟨e.get b.id a.v, b.t, 0, 0⟩) (by simp [results, Try.results41, go_sem, r0, r1, r2, r3, rf0, rf1, rf2, rf3, gtV]) rfl ⟨rfl, set4 N.out.1.hb (by omega) _ _ _ _⟩
set_option maxRecDepth 100000 in
set_option maxHeartbeats 6400000 in
theorem rn_out (n : Ex) (v o : NV) (res t : Int) (A : Option Addr) (len cc : Nat) (a b : Gt) (w : World) (hk : n.k < 6 ∨ 18 < n.k) 
     :
    Calls Try.prog 42 #[.slice A len cc, exA n, envA v o res t] w fun e' w' => e' = .returned (gtV (⟨0, 5, 0, 0⟩)) ∧ Below w.heap.size w w' := by
  unfold exA envA
  obtain ⟨kk, hkk⟩ : ∃ k, n.k = k := ⟨_, rfl⟩
  rw [hkk] at hk
  have HK := Lib.hid hkk
  clear hkk
  rcases (by omega : kk < 6 ∨ (6 ≤ kk ∧ 18 < kk)) with hk1 | ⟨hk1, hk2⟩
  · clear hk
    go_enter Try.func42, Try.ntmps42
    go_upto_region 1 with fail
    refine at_world (fun W => NmI w W n v o res t) ⟨(by repeat' (first | exact Below.refl _ _ | (refine Below.alloc ?_ ?_ _) | (refine Below.setCell ?_ ?_ _) | (refine Below.drew ?_) | (refine below_next ?_ ?_ (by assumption)) | omega | (simp; done) | (simp; omega))), ⟨by first | (simp; done) | (simp; omega), by simp [go_sem], by simp [go_sem], by simp [go_sem], by simp [go_sem], by simp [go_sem], by simp [go_sem], by simp [go_sem]⟩, ⟨by first | (simp; done) | (simp; omega), by simp [go_sem], by simp [go_sem], by simp [go_sem], by simp [go_sem], by simp [go_sem], by simp [go_sem]⟩, ⟨by first | (simp; done) | (simp; omega), by simp [go_sem], by simp [go_sem], by simp [go_sem], by simp [go_sem], by simp [go_sem], by simp [go_sem], by simp [go_sem], by simp [go_sem]⟩⟩ ?_
    intro W0 N0
    have hb := N0.hb
    have n0 := (N0.b7).c0; have n1 : _ = _ := (N0.b7).box1; have n2 := (N0.b7).box2; have n3 := (N0.b7).box3; have n4 := (N0.b7).box4; have n5 := (N0.b7).box5; have n6 := (N0.b7).box6
    have r0 := (N0.b4).c0; have r1 := (N0.b4).c1; have r2 := (N0.b4).c2; have r3 := (N0.b4).c3; have rf0 := (N0.b4).f0; have rf1 := (N0.b4).f1; have rf2 := (N0.b4).f2; have rf3 := (N0.b4).f3
    clear N0
    rw [HK.out] at n0
    go_wp2_with fail
    exact bodyPost_ret (v := gtV ⟨0, 5, 0, 0⟩) (by simp [results, Try.results42, go_sem, r0, r1, r2, r3, rf0, rf1, rf2, rf3, gtV]) rfl ⟨rfl, set4 hb (by omega) _ _ _ _⟩
  · clear hk
    have q8 : decide (kk < 6) = false := decide_eq_false (by omega)
    go_enter Try.func42, Try.ntmps42
    go_upto_region 1 with fail
    refine at_world (fun W => NmI w W n v o res t) ⟨(by repeat' (first | exact Below.refl _ _ | (refine Below.alloc ?_ ?_ _) | (refine Below.setCell ?_ ?_ _) | (refine Below.drew ?_) | (refine below_next ?_ ?_ (by assumption)) | omega | (simp; done) | (simp; omega))), ⟨by first | (simp; done) | (simp; omega), by simp [go_sem], by simp [go_sem], by simp [go_sem], by simp [go_sem], by simp [go_sem], by simp [go_sem], by simp [go_sem]⟩, ⟨by first | (simp; done) | (simp; omega), by simp [go_sem], by simp [go_sem], by simp [go_sem], by simp [go_sem], by simp [go_sem], by simp [go_sem]⟩, ⟨by first | (simp; done) | (simp; omega), by simp [go_sem], by simp [go_sem], by simp [go_sem], by simp [go_sem], by simp [go_sem], by simp [go_sem], by simp [go_sem], by simp [go_sem]⟩⟩ ?_
    intro W0 N0
    have hb := N0.hb
    have n0 := (N0.b7).c0; have n1 : _ = _ := (N0.b7).box1; have n2 := (N0.b7).box2; have n3 := (N0.b7).box3; have n4 := (N0.b7).box4; have n5 := (N0.b7).box5; have n6 := (N0.b7).box6
    have r0 := (N0.b4).c0; have r1 := (N0.b4).c1; have r2 := (N0.b4).c2; have r3 := (N0.b4).c3; have rf0 := (N0.b4).f0; have rf1 := (N0.b4).f1; have rf2 := (N0.b4).f2; have rf3 := (N0.b4).f3
    clear N0
    rw [HK.out] at n0
    go_wp2_with fail
    exact bodyPost_ret (v := gtV ⟨0, 5, 0, 0⟩) (by simp [results, Try.results42, go_sem, r0, r1, r2, r3, rf0, rf1, rf2, rf3, gtV]) rfl ⟨rfl, set4 hb (by omega) _ _ _ _⟩
set_option maxRecDepth 100000 in
set_option maxHeartbeats 6400000 in
theorem rn_cast (n : Ex) (v o : NV) (res t : Int) (A : Option Addr) (len cc : Nat) (a b : Gt) (w : World) (hk : n.k = 18) (hu : a.ub = 0) (IH : ∀ W, Below w.heap.size w W → Calls Try.prog 25 #[.slice A len cc, .int .i64 n.a, envA v o res t] W fun e' w' => e' = .returned (gtV a) ∧ Below W.heap.size W w')
     :
    Calls Try.prog 42 #[.slice A len cc, exA n, envA v o res t] w fun e' w' => e' = .returned (gtV (⟨wrapT n.t a.v, n.t, 0, 0⟩)) ∧ Below w.heap.size w w' := by
  obtain ⟨x, hx⟩ : ∃ x, wrapT n.t a.v = x := ⟨_, rfl⟩
  have LX : ∀ W, Calls Try.prog 34 #[.int .i64 n.t, .int .i64 a.v] W fun e w' => e = .returned (.int .i64 x) ∧ W = w' := fun W => by have := r_wrap_c n.t a.v W; rwa [hx] at this
  rw [hx]
  have HU := Lib.hid hu
  have HK : Hid (n.k = 18) := Lib.hid hk
  clear hx hk hu
  unfold exA envA
  have IH2 : ∀ W, Below w.heap.size w W → Calls Try.prog 25 #[.slice A len cc, .int .i64 n.a, .agg #[.pointer v.mp, .slice v.ba v.bl v.bc, .pointer o.mp, .slice o.ba o.bl o.bc, .int .i64 res, .int .i64 t]] W fun e' w' => e' = .returned (.agg #[.int .i64 a.v, .int .i64 a.t, .int .i64 a.ub, .int .i64 a.at_]) ∧ Below W.heap.size W w' := IH
  clear IH
  go_enter Try.func42, Try.ntmps42
  go_upto_region 1 with fail
  refine at_world (fun W => NmI w W n v o res t) ⟨(by repeat' (first | exact Below.refl _ _ | (refine Below.alloc ?_ ?_ _) | (refine Below.setCell ?_ ?_ _) | (refine Below.drew ?_) | (refine below_next ?_ ?_ (by assumption)) | omega | (simp; done) | (simp; omega))), ⟨by first | (simp; done) | (simp; omega), by simp [go_sem], by simp [go_sem], by simp [go_sem], by simp [go_sem], by simp [go_sem], by simp [go_sem], by simp [go_sem]⟩, ⟨by first | (simp; done) | (simp; omega), by simp [go_sem], by simp [go_sem], by simp [go_sem], by simp [go_sem], by simp [go_sem], by simp [go_sem]⟩, ⟨by first | (simp; done) | (simp; omega), by simp [go_sem], by simp [go_sem], by simp [go_sem], by simp [go_sem], by simp [go_sem], by simp [go_sem], by simp [go_sem], by simp [go_sem]⟩⟩ ?_
  intro W0 N0
  have N := Lib.hid N0
  have n0 := (N0.b7).c0; have n1 : _ = _ := (N0.b7).box1; have n2 := (N0.b7).box2; have n3 := (N0.b7).box3; have n4 := (N0.b7).box4; have n5 := (N0.b7).box5; have n6 := (N0.b7).box6
  have e0 := (N0.b6).c0; have e1 := (N0.b6).c1; have e2 := (N0.b6).c2; have e3 := (N0.b6).c3; have e4 := (N0.b6).c4; have e5 := (N0.b6).c5
  have hsz0 : w.heap.size + 3 ≤ W0.heap.size := by have := N0.b4.lt; omega
  clear N0
  rw [HK.out] at n0
  go_upto_region 4 with (go_at_call 25; refine (IH2 _ N.out.hb).mono ?_; rintro e' w1 ⟨rfl, hb1⟩; have N := Lib.hid (N.out.below hb1); have hs1 := hb1.size; clear hb1 IH2)
  refine at_world (fun W => NmI w W n v o res t ∧ Bx4 W w1.heap.size a ∧ W.heap.size = w1.heap.size + 1) ⟨N.out.below (by repeat' (first | exact Below.refl _ _ | (refine Below.alloc ?_ ?_ _) | (refine Below.setCell ?_ ?_ _) | (refine Below.drew ?_) | (refine below_next ?_ ?_ (by assumption)) | omega | (simp; done) | (simp; omega))), ⟨by first | (simp; done) | (simp; omega), by simp [go_sem], by simp [go_sem], by simp [go_sem], by simp [go_sem], by simp [go_sem], by simp [go_sem], by simp [go_sem], by simp [go_sem]⟩, by simp⟩ ?_
  rintro W2 ⟨N2, A2, hz2⟩
  clear N n0 n1 n2 n3 n4 n5 n6 e0 e1 e2 e3 e4 e5
  have N := Lib.hid N2
  have n0 := (N2.b7).c0; have n1 : _ = _ := (N2.b7).box1; have n2 := (N2.b7).box2; have n3 := (N2.b7).box3; have n4 := (N2.b7).box4; have n5 := (N2.b7).box5; have n6 := (N2.b7).box6
  rw [HK.out] at n0
  go_upto_region 6 with fail
  refine at_world (fun W => OnI w W n v o res t w1.heap.size (w1.heap.size + 1) a ⟨0, 5, 0, 0⟩) ⟨below_next N2.hb N2.hb.size (by repeat' (first | exact Below.refl _ _ | (refine Below.alloc ?_ ?_ _) | (refine Below.setCell ?_ ?_ _) | (refine Below.drew ?_) | (refine below_next ?_ ?_ (by assumption)) | omega | (simp; done) | (simp; omega))), N2.b7.below (by repeat' (first | exact Below.refl _ _ | (refine Below.alloc ?_ ?_ _) | (refine Below.setCell ?_ ?_ _) | (refine Below.drew ?_) | (refine below_next ?_ ?_ (by assumption)) | omega | (simp; done) | (simp; omega))), N2.b6.below (by repeat' (first | exact Below.refl _ _ | (refine Below.alloc ?_ ?_ _) | (refine Below.setCell ?_ ?_ _) | (refine Below.drew ?_) | (refine below_next ?_ ?_ (by assumption)) | omega | (simp; done) | (simp; omega))), N2.b4.below (by repeat' (first | exact Below.refl _ _ | (refine Below.alloc ?_ ?_ _) | (refine Below.setCell ?_ ?_ _) | (refine Below.drew ?_) | (refine below_next ?_ ?_ (by assumption)) | omega | (simp; done) | (simp; omega))), A2.below (by repeat' (first | exact Below.refl _ _ | (refine Below.alloc ?_ ?_ _) | (refine Below.setCell ?_ ?_ _) | (refine Below.drew ?_) | (refine below_next ?_ ?_ (by assumption)) | omega | (simp; done) | (simp; omega))), by rw [← hz2]; exact ⟨by first | (simp; done) | (simp; omega), by simp [go_sem], by simp [go_sem], by simp [go_sem], by simp [go_sem], by simp [go_sem], by simp [go_sem], by simp [go_sem], by simp [go_sem]⟩, by omega, by omega⟩ ?_
  intro W3 O3
  obtain ⟨D3, hD3⟩ : ∃ x, w1.heap.size = x := ⟨_, rfl⟩
  simp only [hz2, hD3] at O3 ⊢
  clear hD3 hz2 N2 A2 N hsz0 hs1 n0 n1 n2 n3 n4 n5 n6
  have O := Lib.hid O3
  have n0 := (O3.b7).c0; have n1 : _ = _ := (O3.b7).box1; have n2 := (O3.b7).box2; have n3 := (O3.b7).box3; have n4 := (O3.b7).box4; have n5 := (O3.b7).box5; have n6 := (O3.b7).box6; have e0 := (O3.b6).c0; have e1 := (O3.b6).c1; have e2 := (O3.b6).c2; have e3 := (O3.b6).c3; have e4 := (O3.b6).c4; have e5 := (O3.b6).c5; have r0 := (O3.r4).c0; have r1 := (O3.r4).c1; have r2 := (O3.r4).c2; have r3 := (O3.r4).c3; have rf0 := (O3.r4).f0; have rf1 := (O3.r4).f1; have rf2 := (O3.r4).f2; have rf3 := (O3.r4).f3; have x0 := (O3.a4).c0; have x1 := (O3.a4).c1; have x2 := (O3.a4).c2; have x3 := (O3.a4).c3; have xf0 := (O3.a4).f0; have xf1 := (O3.a4).f1; have xf2 := (O3.a4).f2; have xf3 := (O3.a4).f3; have y0 := (O3.d4).c0; have y1 := (O3.d4).c1; have y2 := (O3.d4).c2; have y3 := (O3.d4).c3; have yf0 := (O3.d4).f0; have yf1 := (O3.d4).f1; have yf2 := (O3.d4).f2; have yf3 := (O3.d4).f3
  have h3 := O3.h3
  clear O3
  rw [HK.out] at n0
  rw [HU.out] at x2
  go_wp2_with (go_at_call 34; refine (LX _).mono ?_; rintro e' w9 ⟨rfl, rfl⟩; clear LX)
  exact bodyPost_ret (v := gtV ⟨x, n.t, 0, 0⟩) (by simp [results, Try.results42, go_sem, r0, r1, r2, r3, rf0, rf1, rf2, rf3, gtV]) rfl ⟨rfl, set4 O.out.hb (by omega) _ _ _ _⟩
set_option maxRecDepth 100000 in
set_option maxHeartbeats 6400000 in
theorem rn_cast2 (n : Ex) (v o : NV) (res t : Int) (A : Option Addr) (len cc : Nat) (a b : Gt) (w : World) (hk : n.k = 18) (hu : a.ub ≠ 0) (IH : ∀ W, Below w.heap.size w W → Calls Try.prog 25 #[.slice A len cc, .int .i64 n.a, envA v o res t] W fun e' w' => e' = .returned (gtV a) ∧ Below W.heap.size W w')
     :
    Calls Try.prog 42 #[.slice A len cc, exA n, envA v o res t] w fun e' w' => e' = .returned (gtV (⟨0, n.t, a.ub, a.at_⟩)) ∧ Below w.heap.size w w' := by
  have u0 : (a.ub == 0) = false := by rw [beq_eq_false_iff_ne]; exact hu
  have u1 : (a.ub != 0) = true := by rw [bne, u0]; rfl
  have HK : Hid (n.k = 18) := Lib.hid hk
  clear hk hu
  unfold exA envA
  have IH2 : ∀ W, Below w.heap.size w W → Calls Try.prog 25 #[.slice A len cc, .int .i64 n.a, .agg #[.pointer v.mp, .slice v.ba v.bl v.bc, .pointer o.mp, .slice o.ba o.bl o.bc, .int .i64 res, .int .i64 t]] W fun e' w' => e' = .returned (.agg #[.int .i64 a.v, .int .i64 a.t, .int .i64 a.ub, .int .i64 a.at_]) ∧ Below W.heap.size W w' := IH
  clear IH
  go_enter Try.func42, Try.ntmps42
  go_upto_region 1 with fail
  refine at_world (fun W => NmI w W n v o res t) ⟨(by repeat' (first | exact Below.refl _ _ | (refine Below.alloc ?_ ?_ _) | (refine Below.setCell ?_ ?_ _) | (refine Below.drew ?_) | (refine below_next ?_ ?_ (by assumption)) | omega | (simp; done) | (simp; omega))), ⟨by first | (simp; done) | (simp; omega), by simp [go_sem], by simp [go_sem], by simp [go_sem], by simp [go_sem], by simp [go_sem], by simp [go_sem], by simp [go_sem]⟩, ⟨by first | (simp; done) | (simp; omega), by simp [go_sem], by simp [go_sem], by simp [go_sem], by simp [go_sem], by simp [go_sem], by simp [go_sem]⟩, ⟨by first | (simp; done) | (simp; omega), by simp [go_sem], by simp [go_sem], by simp [go_sem], by simp [go_sem], by simp [go_sem], by simp [go_sem], by simp [go_sem], by simp [go_sem]⟩⟩ ?_
  intro W0 N0
  have N := Lib.hid N0
  have n0 := (N0.b7).c0; have n1 : _ = _ := (N0.b7).box1; have n2 := (N0.b7).box2; have n3 := (N0.b7).box3; have n4 := (N0.b7).box4; have n5 := (N0.b7).box5; have n6 := (N0.b7).box6
  have e0 := (N0.b6).c0; have e1 := (N0.b6).c1; have e2 := (N0.b6).c2; have e3 := (N0.b6).c3; have e4 := (N0.b6).c4; have e5 := (N0.b6).c5
  have hsz0 : w.heap.size + 3 ≤ W0.heap.size := by have := N0.b4.lt; omega
  clear N0
  rw [HK.out] at n0
  go_upto_region 4 with (go_at_call 25; refine (IH2 _ N.out.hb).mono ?_; rintro e' w1 ⟨rfl, hb1⟩; have N := Lib.hid (N.out.below hb1); have hs1 := hb1.size; clear hb1 IH2)
  refine at_world (fun W => NmI w W n v o res t ∧ Bx4 W w1.heap.size a ∧ W.heap.size = w1.heap.size + 1) ⟨N.out.below (by repeat' (first | exact Below.refl _ _ | (refine Below.alloc ?_ ?_ _) | (refine Below.setCell ?_ ?_ _) | (refine Below.drew ?_) | (refine below_next ?_ ?_ (by assumption)) | omega | (simp; done) | (simp; omega))), ⟨by first | (simp; done) | (simp; omega), by simp [go_sem], by simp [go_sem], by simp [go_sem], by simp [go_sem], by simp [go_sem], by simp [go_sem], by simp [go_sem], by simp [go_sem]⟩, by simp⟩ ?_
  rintro W2 ⟨N2, A2, hz2⟩
  clear N n0 n1 n2 n3 n4 n5 n6 e0 e1 e2 e3 e4 e5
  have N := Lib.hid N2
  have n0 := (N2.b7).c0; have n1 : _ = _ := (N2.b7).box1; have n2 := (N2.b7).box2; have n3 := (N2.b7).box3; have n4 := (N2.b7).box4; have n5 := (N2.b7).box5; have n6 := (N2.b7).box6
  rw [HK.out] at n0
  go_upto_region 6 with fail
  refine at_world (fun W => OnI w W n v o res t w1.heap.size (w1.heap.size + 1) a ⟨0, 5, 0, 0⟩) ⟨below_next N2.hb N2.hb.size (by repeat' (first | exact Below.refl _ _ | (refine Below.alloc ?_ ?_ _) | (refine Below.setCell ?_ ?_ _) | (refine Below.drew ?_) | (refine below_next ?_ ?_ (by assumption)) | omega | (simp; done) | (simp; omega))), N2.b7.below (by repeat' (first | exact Below.refl _ _ | (refine Below.alloc ?_ ?_ _) | (refine Below.setCell ?_ ?_ _) | (refine Below.drew ?_) | (refine below_next ?_ ?_ (by assumption)) | omega | (simp; done) | (simp; omega))), N2.b6.below (by repeat' (first | exact Below.refl _ _ | (refine Below.alloc ?_ ?_ _) | (refine Below.setCell ?_ ?_ _) | (refine Below.drew ?_) | (refine below_next ?_ ?_ (by assumption)) | omega | (simp; done) | (simp; omega))), N2.b4.below (by repeat' (first | exact Below.refl _ _ | (refine Below.alloc ?_ ?_ _) | (refine Below.setCell ?_ ?_ _) | (refine Below.drew ?_) | (refine below_next ?_ ?_ (by assumption)) | omega | (simp; done) | (simp; omega))), A2.below (by repeat' (first | exact Below.refl _ _ | (refine Below.alloc ?_ ?_ _) | (refine Below.setCell ?_ ?_ _) | (refine Below.drew ?_) | (refine below_next ?_ ?_ (by assumption)) | omega | (simp; done) | (simp; omega))), by rw [← hz2]; exact ⟨by first | (simp; done) | (simp; omega), by simp [go_sem], by simp [go_sem], by simp [go_sem], by simp [go_sem], by simp [go_sem], by simp [go_sem], by simp [go_sem], by simp [go_sem]⟩, by omega, by omega⟩ ?_
  intro W3 O3
  obtain ⟨D3, hD3⟩ : ∃ x, w1.heap.size = x := ⟨_, rfl⟩
  simp only [hz2, hD3] at O3 ⊢
  clear hD3 hz2 N2 A2 N hsz0 hs1 n0 n1 n2 n3 n4 n5 n6
  have O := Lib.hid O3
  have n0 := (O3.b7).c0; have n1 : _ = _ := (O3.b7).box1; have n2 := (O3.b7).box2; have n3 := (O3.b7).box3; have n4 := (O3.b7).box4; have n5 := (O3.b7).box5; have n6 := (O3.b7).box6; have e0 := (O3.b6).c0; have e1 := (O3.b6).c1; have e2 := (O3.b6).c2; have e3 := (O3.b6).c3; have e4 := (O3.b6).c4; have e5 := (O3.b6).c5; have r0 := (O3.r4).c0; have r1 := (O3.r4).c1; have r2 := (O3.r4).c2; have r3 := (O3.r4).c3; have rf0 := (O3.r4).f0; have rf1 := (O3.r4).f1; have rf2 := (O3.r4).f2; have rf3 := (O3.r4).f3; have x0 := (O3.a4).c0; have x1 := (O3.a4).c1; have x2 := (O3.a4).c2; have x3 := (O3.a4).c3; have xf0 := (O3.a4).f0; have xf1 := (O3.a4).f1; have xf2 := (O3.a4).f2; have xf3 := (O3.a4).f3; have y0 := (O3.d4).c0; have y1 := (O3.d4).c1; have y2 := (O3.d4).c2; have y3 := (O3.d4).c3; have yf0 := (O3.d4).f0; have yf1 := (O3.d4).f1; have yf2 := (O3.d4).f2; have yf3 := (O3.d4).f3
  have h3 := O3.h3
  clear O3
  rw [HK.out] at n0
  go_wp2_with fail
  exact bodyPost_ret (v := gtV ⟨0, n.t, a.ub, a.at_⟩) (by simp [results, Try.results42, go_sem, r0, r1, r2, r3, rf0, rf1, rf2, rf3, gtV]) rfl ⟨rfl, set4 O.out.hb (by omega) _ _ _ _⟩
set_option maxRecDepth 100000 in
set_option maxHeartbeats 6400000 in
theorem rn_un6 (n : Ex) (v o : NV) (res t : Int) (A : Option Addr) (len cc : Nat) (a b : Gt) (w : World) (hk : n.k = 6) (T : Int) (hT : mixT n.k a.t 5 = T) (hu : a.ub ≠ 0) (IH : ∀ W, Below w.heap.size w W → Calls Try.prog 25 #[.slice A len cc, .int .i64 n.a, envA v o res t] W fun e' w' => e' = .returned (gtV a) ∧ Below W.heap.size W w')
     :
    Calls Try.prog 42 #[.slice A len cc, exA n, envA v o res t] w fun e' w' => e' = .returned (gtV (⟨0, T, a.ub, a.at_⟩)) ∧ Below w.heap.size w w' := by
  have u0 : (a.ub == 0) = false := by rw [beq_eq_false_iff_ne]; exact hu
  have u1 : (a.ub != 0) = true := by rw [bne, u0]; rfl
  have MC : ∀ W, Calls Try.prog 32 #[.int .i64 6, .int .i64 a.t, .int .i64 5] W fun e w' => e = .returned (.int .i64 T) ∧ W = w' := fun W => by have := r_mixed_c 6 a.t 5 W (by omega); rw [hk] at hT; rwa [hT] at this
  have HK : Hid (n.k = 6) := Lib.hid hk
  clear hk hu hT
  unfold exA envA
  have IH2 : ∀ W, Below w.heap.size w W → Calls Try.prog 25 #[.slice A len cc, .int .i64 n.a, .agg #[.pointer v.mp, .slice v.ba v.bl v.bc, .pointer o.mp, .slice o.ba o.bl o.bc, .int .i64 res, .int .i64 t]] W fun e' w' => e' = .returned (.agg #[.int .i64 a.v, .int .i64 a.t, .int .i64 a.ub, .int .i64 a.at_]) ∧ Below W.heap.size W w' := IH
  clear IH
  go_enter Try.func42, Try.ntmps42
  go_upto_region 1 with fail
  refine at_world (fun W => NmI w W n v o res t) ⟨(by repeat' (first | exact Below.refl _ _ | (refine Below.alloc ?_ ?_ _) | (refine Below.setCell ?_ ?_ _) | (refine Below.drew ?_) | (refine below_next ?_ ?_ (by assumption)) | omega | (simp; done) | (simp; omega))), ⟨by first | (simp; done) | (simp; omega), by simp [go_sem], by simp [go_sem], by simp [go_sem], by simp [go_sem], by simp [go_sem], by simp [go_sem], by simp [go_sem]⟩, ⟨by first | (simp; done) | (simp; omega), by simp [go_sem], by simp [go_sem], by simp [go_sem], by simp [go_sem], by simp [go_sem], by simp [go_sem]⟩, ⟨by first | (simp; done) | (simp; omega), by simp [go_sem], by simp [go_sem], by simp [go_sem], by simp [go_sem], by simp [go_sem], by simp [go_sem], by simp [go_sem], by simp [go_sem]⟩⟩ ?_
  intro W0 N0
  have N := Lib.hid N0
  have n0 := (N0.b7).c0; have n1 : _ = _ := (N0.b7).box1; have n2 := (N0.b7).box2; have n3 := (N0.b7).box3; have n4 := (N0.b7).box4; have n5 := (N0.b7).box5; have n6 := (N0.b7).box6
  have e0 := (N0.b6).c0; have e1 := (N0.b6).c1; have e2 := (N0.b6).c2; have e3 := (N0.b6).c3; have e4 := (N0.b6).c4; have e5 := (N0.b6).c5
  have hsz0 : w.heap.size + 3 ≤ W0.heap.size := by have := N0.b4.lt; omega
  clear N0
  rw [HK.out] at n0
  go_upto_region 4 with (go_at_call 25; refine (IH2 _ N.out.hb).mono ?_; rintro e' w1 ⟨rfl, hb1⟩; have N := Lib.hid (N.out.below hb1); have hs1 := hb1.size; clear hb1 IH2)
  refine at_world (fun W => NmI w W n v o res t ∧ Bx4 W w1.heap.size a ∧ W.heap.size = w1.heap.size + 1) ⟨N.out.below (by repeat' (first | exact Below.refl _ _ | (refine Below.alloc ?_ ?_ _) | (refine Below.setCell ?_ ?_ _) | (refine Below.drew ?_) | (refine below_next ?_ ?_ (by assumption)) | omega | (simp; done) | (simp; omega))), ⟨by first | (simp; done) | (simp; omega), by simp [go_sem], by simp [go_sem], by simp [go_sem], by simp [go_sem], by simp [go_sem], by simp [go_sem], by simp [go_sem], by simp [go_sem]⟩, by simp⟩ ?_
  rintro W2 ⟨N2, A2, hz2⟩
  clear N n0 n1 n2 n3 n4 n5 n6 e0 e1 e2 e3 e4 e5
  have N := Lib.hid N2
  have n0 := (N2.b7).c0; have n1 : _ = _ := (N2.b7).box1; have n2 := (N2.b7).box2; have n3 := (N2.b7).box3; have n4 := (N2.b7).box4; have n5 := (N2.b7).box5; have n6 := (N2.b7).box6
  rw [HK.out] at n0
  go_upto_region 6 with fail
  refine at_world (fun W => OnI w W n v o res t w1.heap.size (w1.heap.size + 1) a ⟨0, 5, 0, 0⟩) ⟨below_next N2.hb N2.hb.size (by repeat' (first | exact Below.refl _ _ | (refine Below.alloc ?_ ?_ _) | (refine Below.setCell ?_ ?_ _) | (refine Below.drew ?_) | (refine below_next ?_ ?_ (by assumption)) | omega | (simp; done) | (simp; omega))), N2.b7.below (by repeat' (first | exact Below.refl _ _ | (refine Below.alloc ?_ ?_ _) | (refine Below.setCell ?_ ?_ _) | (refine Below.drew ?_) | (refine below_next ?_ ?_ (by assumption)) | omega | (simp; done) | (simp; omega))), N2.b6.below (by repeat' (first | exact Below.refl _ _ | (refine Below.alloc ?_ ?_ _) | (refine Below.setCell ?_ ?_ _) | (refine Below.drew ?_) | (refine below_next ?_ ?_ (by assumption)) | omega | (simp; done) | (simp; omega))), N2.b4.below (by repeat' (first | exact Below.refl _ _ | (refine Below.alloc ?_ ?_ _) | (refine Below.setCell ?_ ?_ _) | (refine Below.drew ?_) | (refine below_next ?_ ?_ (by assumption)) | omega | (simp; done) | (simp; omega))), A2.below (by repeat' (first | exact Below.refl _ _ | (refine Below.alloc ?_ ?_ _) | (refine Below.setCell ?_ ?_ _) | (refine Below.drew ?_) | (refine below_next ?_ ?_ (by assumption)) | omega | (simp; done) | (simp; omega))), by rw [← hz2]; exact ⟨by first | (simp; done) | (simp; omega), by simp [go_sem], by simp [go_sem], by simp [go_sem], by simp [go_sem], by simp [go_sem], by simp [go_sem], by simp [go_sem], by simp [go_sem]⟩, by omega, by omega⟩ ?_
  intro W3 O3
  obtain ⟨D3, hD3⟩ : ∃ x, w1.heap.size = x := ⟨_, rfl⟩
  simp only [hz2, hD3] at O3 ⊢
  clear hD3 hz2 N2 A2 N hsz0 hs1 n0 n1 n2 n3 n4 n5 n6
  have O := Lib.hid O3
  have n0 := (O3.b7).c0; have n1 : _ = _ := (O3.b7).box1; have n2 := (O3.b7).box2; have n3 := (O3.b7).box3; have n4 := (O3.b7).box4; have n5 := (O3.b7).box5; have n6 := (O3.b7).box6; have e0 := (O3.b6).c0; have e1 := (O3.b6).c1; have e2 := (O3.b6).c2; have e3 := (O3.b6).c3; have e4 := (O3.b6).c4; have e5 := (O3.b6).c5; have r0 := (O3.r4).c0; have r1 := (O3.r4).c1; have r2 := (O3.r4).c2; have r3 := (O3.r4).c3; have rf0 := (O3.r4).f0; have rf1 := (O3.r4).f1; have rf2 := (O3.r4).f2; have rf3 := (O3.r4).f3; have x0 := (O3.a4).c0; have x1 := (O3.a4).c1; have x2 := (O3.a4).c2; have x3 := (O3.a4).c3; have xf0 := (O3.a4).f0; have xf1 := (O3.a4).f1; have xf2 := (O3.a4).f2; have xf3 := (O3.a4).f3; have y0 := (O3.d4).c0; have y1 := (O3.d4).c1; have y2 := (O3.d4).c2; have y3 := (O3.d4).c3; have yf0 := (O3.d4).f0; have yf1 := (O3.d4).f1; have yf2 := (O3.d4).f2; have yf3 := (O3.d4).f3
  have h3 := O3.h3
  clear O3
  rw [HK.out] at n0
  go_upto_region 13 with (go_at_call 32; refine (MC _).mono ?_; rintro e' w9 ⟨rfl, rfl⟩; clear MC)
  refine at_world (fun W => OnI w W n v o res t D3 (D3 + 1) a ⟨0, 5, 0, 0⟩) (O.out.setV 0) ?_
  intro W6 O6
  clear n0 n1 n2 n3 n4 n5 n6 e0 e1 e2 e3 e4 e5 r0 r1 r2 r3 rf0 rf1 rf2 rf3 x0 x1 x2 x3 xf0 xf1 xf2 xf3 y0 y1 y2 y3 yf0 yf1 yf2 yf3 O
  have O := Lib.hid O6
  have n0 := (O6.b7).c0; have n1 : _ = _ := (O6.b7).box1; have n2 := (O6.b7).box2; have n3 := (O6.b7).box3; have n4 := (O6.b7).box4; have n5 := (O6.b7).box5; have n6 := (O6.b7).box6; have e0 := (O6.b6).c0; have e1 := (O6.b6).c1; have e2 := (O6.b6).c2; have e3 := (O6.b6).c3; have e4 := (O6.b6).c4; have e5 := (O6.b6).c5; have r0 := (O6.r4).c0; have r1 := (O6.r4).c1; have r2 := (O6.r4).c2; have r3 := (O6.r4).c3; have rf0 := (O6.r4).f0; have rf1 := (O6.r4).f1; have rf2 := (O6.r4).f2; have rf3 := (O6.r4).f3; have x0 := (O6.a4).c0; have x1 := (O6.a4).c1; have x2 := (O6.a4).c2; have x3 := (O6.a4).c3; have xf0 := (O6.a4).f0; have xf1 := (O6.a4).f1; have xf2 := (O6.a4).f2; have xf3 := (O6.a4).f3; have y0 := (O6.d4).c0; have y1 := (O6.d4).c1; have y2 := (O6.d4).c2; have y3 := (O6.d4).c3; have yf0 := (O6.d4).f0; have yf1 := (O6.d4).f1; have yf2 := (O6.d4).f2; have yf3 := (O6.d4).f3
  clear O6
  rw [HK.out] at n0
  go_wp2_with fail
  exact bodyPost_ret (v := gtV ⟨0, T, a.ub, a.at_⟩) (by simp [results, Try.results42, go_sem, r0, r1, r2, r3, rf0, rf1, rf2, rf3, gtV]) rfl ⟨rfl, set4 O.out.hb (by omega) _ _ _ _⟩
set_option maxRecDepth 100000 in
set_option maxHeartbeats 6400000 in
theorem rn_un7 (n : Ex) (v o : NV) (res t : Int) (A : Option Addr) (len cc : Nat) (a b : Gt) (w : World) (hk : n.k = 7) (T : Int) (hT : mixT n.k a.t 5 = T) (hu : a.ub ≠ 0) (IH : ∀ W, Below w.heap.size w W → Calls Try.prog 25 #[.slice A len cc, .int .i64 n.a, envA v o res t] W fun e' w' => e' = .returned (gtV a) ∧ Below W.heap.size W w')
     :
    Calls Try.prog 42 #[.slice A len cc, exA n, envA v o res t] w fun e' w' => e' = .returned (gtV (⟨0, T, a.ub, a.at_⟩)) ∧ Below w.heap.size w w' := by
  have u0 : (a.ub == 0) = false := by rw [beq_eq_false_iff_ne]; exact hu
  have u1 : (a.ub != 0) = true := by rw [bne, u0]; rfl
  have MC : ∀ W, Calls Try.prog 32 #[.int .i64 7, .int .i64 a.t, .int .i64 5] W fun e w' => e = .returned (.int .i64 T) ∧ W = w' := fun W => by have := r_mixed_c 7 a.t 5 W (by omega); rw [hk] at hT; rwa [hT] at this
  have HK : Hid (n.k = 7) := Lib.hid hk
  clear hk hu hT
  unfold exA envA
  have IH2 : ∀ W, Below w.heap.size w W → Calls Try.prog 25 #[.slice A len cc, .int .i64 n.a, .agg #[.pointer v.mp, .slice v.ba v.bl v.bc, .pointer o.mp, .slice o.ba o.bl o.bc, .int .i64 res, .int .i64 t]] W fun e' w' => e' = .returned (.agg #[.int .i64 a.v, .int .i64 a.t, .int .i64 a.ub, .int .i64 a.at_]) ∧ Below W.heap.size W w' := IH
  clear IH
  go_enter Try.func42, Try.ntmps42
  go_upto_region 1 with fail
  refine at_world (fun W => NmI w W n v o res t) ⟨(by repeat' (first | exact Below.refl _ _ | (refine Below.alloc ?_ ?_ _) | (refine Below.setCell ?_ ?_ _) | (refine Below.drew ?_) | (refine below_next ?_ ?_ (by assumption)) | omega | (simp; done) | (simp; omega))), ⟨by first | (simp; done) | (simp; omega), by simp [go_sem], by simp [go_sem], by simp [go_sem], by simp [go_sem], by simp [go_sem], by simp [go_sem], by simp [go_sem]⟩, ⟨by first | (simp; done) | (simp; omega), by simp [go_sem], by simp [go_sem], by simp [go_sem], by simp [go_sem], by simp [go_sem], by simp [go_sem]⟩, ⟨by first | (simp; done) | (simp; omega), by simp [go_sem], by simp [go_sem], by simp [go_sem], by simp [go_sem], by simp [go_sem], by simp [go_sem], by simp [go_sem], by simp [go_sem]⟩⟩ ?_
  intro W0 N0
  have N := Lib.hid N0
  have n0 := (N0.b7).c0; have n1 : _ = _ := (N0.b7).box1; have n2 := (N0.b7).box2; have n3 := (N0.b7).box3; have n4 := (N0.b7).box4; have n5 := (N0.b7).box5; have n6 := (N0.b7).box6
  have e0 := (N0.b6).c0; have e1 := (N0.b6).c1; have e2 := (N0.b6).c2; have e3 := (N0.b6).c3; have e4 := (N0.b6).c4; have e5 := (N0.b6).c5
  have hsz0 : w.heap.size + 3 ≤ W0.heap.size := by have := N0.b4.lt; omega
  clear N0
  rw [HK.out] at n0
  go_upto_region 4 with (go_at_call 25; refine (IH2 _ N.out.hb).mono ?_; rintro e' w1 ⟨rfl, hb1⟩; have N := Lib.hid (N.out.below hb1); have hs1 := hb1.size; clear hb1 IH2)
  refine at_world (fun W => NmI w W n v o res t ∧ Bx4 W w1.heap.size a ∧ W.heap.size = w1.heap.size + 1) ⟨N.out.below (by repeat' (first | exact Below.refl _ _ | (refine Below.alloc ?_ ?_ _) | (refine Below.setCell ?_ ?_ _) | (refine Below.drew ?_) | (refine below_next ?_ ?_ (by assumption)) | omega | (simp; done) | (simp; omega))), ⟨by first | (simp; done) | (simp; omega), by simp [go_sem], by simp [go_sem], by simp [go_sem], by simp [go_sem], by simp [go_sem], by simp [go_sem], by simp [go_sem], by simp [go_sem]⟩, by simp⟩ ?_
  rintro W2 ⟨N2, A2, hz2⟩
  clear N n0 n1 n2 n3 n4 n5 n6 e0 e1 e2 e3 e4 e5
  have N := Lib.hid N2
  have n0 := (N2.b7).c0; have n1 : _ = _ := (N2.b7).box1; have n2 := (N2.b7).box2; have n3 := (N2.b7).box3; have n4 := (N2.b7).box4; have n5 := (N2.b7).box5; have n6 := (N2.b7).box6
  rw [HK.out] at n0
  go_upto_region 6 with fail
  refine at_world (fun W => OnI w W n v o res t w1.heap.size (w1.heap.size + 1) a ⟨0, 5, 0, 0⟩) ⟨below_next N2.hb N2.hb.size (by repeat' (first | exact Below.refl _ _ | (refine Below.alloc ?_ ?_ _) | (refine Below.setCell ?_ ?_ _) | (refine Below.drew ?_) | (refine below_next ?_ ?_ (by assumption)) | omega | (simp; done) | (simp; omega))), N2.b7.below (by repeat' (first | exact Below.refl _ _ | (refine Below.alloc ?_ ?_ _) | (refine Below.setCell ?_ ?_ _) | (refine Below.drew ?_) | (refine below_next ?_ ?_ (by assumption)) | omega | (simp; done) | (simp; omega))), N2.b6.below (by repeat' (first | exact Below.refl _ _ | (refine Below.alloc ?_ ?_ _) | (refine Below.setCell ?_ ?_ _) | (refine Below.drew ?_) | (refine below_next ?_ ?_ (by assumption)) | omega | (simp; done) | (simp; omega))), N2.b4.below (by repeat' (first | exact Below.refl _ _ | (refine Below.alloc ?_ ?_ _) | (refine Below.setCell ?_ ?_ _) | (refine Below.drew ?_) | (refine below_next ?_ ?_ (by assumption)) | omega | (simp; done) | (simp; omega))), A2.below (by repeat' (first | exact Below.refl _ _ | (refine Below.alloc ?_ ?_ _) | (refine Below.setCell ?_ ?_ _) | (refine Below.drew ?_) | (refine below_next ?_ ?_ (by assumption)) | omega | (simp; done) | (simp; omega))), by rw [← hz2]; exact ⟨by first | (simp; done) | (simp; omega), by simp [go_sem], by simp [go_sem], by simp [go_sem], by simp [go_sem], by simp [go_sem], by simp [go_sem], by simp [go_sem], by simp [go_sem]⟩, by omega, by omega⟩ ?_
  intro W3 O3
  obtain ⟨D3, hD3⟩ : ∃ x, w1.heap.size = x := ⟨_, rfl⟩
  simp only [hz2, hD3] at O3 ⊢
  clear hD3 hz2 N2 A2 N hsz0 hs1 n0 n1 n2 n3 n4 n5 n6
  have O := Lib.hid O3
  have n0 := (O3.b7).c0; have n1 : _ = _ := (O3.b7).box1; have n2 := (O3.b7).box2; have n3 := (O3.b7).box3; have n4 := (O3.b7).box4; have n5 := (O3.b7).box5; have n6 := (O3.b7).box6; have e0 := (O3.b6).c0; have e1 := (O3.b6).c1; have e2 := (O3.b6).c2; have e3 := (O3.b6).c3; have e4 := (O3.b6).c4; have e5 := (O3.b6).c5; have r0 := (O3.r4).c0; have r1 := (O3.r4).c1; have r2 := (O3.r4).c2; have r3 := (O3.r4).c3; have rf0 := (O3.r4).f0; have rf1 := (O3.r4).f1; have rf2 := (O3.r4).f2; have rf3 := (O3.r4).f3; have x0 := (O3.a4).c0; have x1 := (O3.a4).c1; have x2 := (O3.a4).c2; have x3 := (O3.a4).c3; have xf0 := (O3.a4).f0; have xf1 := (O3.a4).f1; have xf2 := (O3.a4).f2; have xf3 := (O3.a4).f3; have y0 := (O3.d4).c0; have y1 := (O3.d4).c1; have y2 := (O3.d4).c2; have y3 := (O3.d4).c3; have yf0 := (O3.d4).f0; have yf1 := (O3.d4).f1; have yf2 := (O3.d4).f2; have yf3 := (O3.d4).f3
  have h3 := O3.h3
  clear O3
  rw [HK.out] at n0
  go_upto_region 13 with (go_at_call 32; refine (MC _).mono ?_; rintro e' w9 ⟨rfl, rfl⟩; clear MC)
  refine at_world (fun W => OnI w W n v o res t D3 (D3 + 1) a ⟨0, 5, 0, 0⟩) (O.out.setV 0) ?_
  intro W6 O6
  clear n0 n1 n2 n3 n4 n5 n6 e0 e1 e2 e3 e4 e5 r0 r1 r2 r3 rf0 rf1 rf2 rf3 x0 x1 x2 x3 xf0 xf1 xf2 xf3 y0 y1 y2 y3 yf0 yf1 yf2 yf3 O
  have O := Lib.hid O6
  have n0 := (O6.b7).c0; have n1 : _ = _ := (O6.b7).box1; have n2 := (O6.b7).box2; have n3 := (O6.b7).box3; have n4 := (O6.b7).box4; have n5 := (O6.b7).box5; have n6 := (O6.b7).box6; have e0 := (O6.b6).c0; have e1 := (O6.b6).c1; have e2 := (O6.b6).c2; have e3 := (O6.b6).c3; have e4 := (O6.b6).c4; have e5 := (O6.b6).c5; have r0 := (O6.r4).c0; have r1 := (O6.r4).c1; have r2 := (O6.r4).c2; have r3 := (O6.r4).c3; have rf0 := (O6.r4).f0; have rf1 := (O6.r4).f1; have rf2 := (O6.r4).f2; have rf3 := (O6.r4).f3; have x0 := (O6.a4).c0; have x1 := (O6.a4).c1; have x2 := (O6.a4).c2; have x3 := (O6.a4).c3; have xf0 := (O6.a4).f0; have xf1 := (O6.a4).f1; have xf2 := (O6.a4).f2; have xf3 := (O6.a4).f3; have y0 := (O6.d4).c0; have y1 := (O6.d4).c1; have y2 := (O6.d4).c2; have y3 := (O6.d4).c3; have yf0 := (O6.d4).f0; have yf1 := (O6.d4).f1; have yf2 := (O6.d4).f2; have yf3 := (O6.d4).f3
  clear O6
  rw [HK.out] at n0
  go_wp2_with fail
  exact bodyPost_ret (v := gtV ⟨0, T, a.ub, a.at_⟩) (by simp [results, Try.results42, go_sem, r0, r1, r2, r3, rf0, rf1, rf2, rf3, gtV]) rfl ⟨rfl, set4 O.out.hb (by omega) _ _ _ _⟩
set_option maxRecDepth 100000 in
set_option maxHeartbeats 6400000 in
theorem rn_und6 (n : Ex) (v o : NV) (res t : Int) (A : Option Addr) (len cc : Nat) (a b : Gt) (w : World) (hk : n.k = 6) (hu : a.ub = 0) (T x y rv ru : Int) (hT : mixT n.k a.t 5 = T) (hx : wrapT T a.v = x) (hy : wrapT T 0 = y) (hr : doI n.k T x y = (rv, ru)) (q : Gt) (hq : q = if ru = 0 then ⟨rv, T, 0, 0⟩ else ⟨0, T, ru, n.at_⟩)  (IH : ∀ W, Below w.heap.size w W → Calls Try.prog 25 #[.slice A len cc, .int .i64 n.a, envA v o res t] W fun e' w' => e' = .returned (gtV a) ∧ Below W.heap.size W w')
     :
    Calls Try.prog 42 #[.slice A len cc, exA n, envA v o res t] w fun e' w' => e' = .returned (gtV (q)) ∧ Below w.heap.size w w' := by
  have HPP : (ru = 0 ∧ Hid (q = ⟨rv, T, 0, 0⟩)) ∨ ((ru == 0) = false ∧ Hid (q = ⟨0, T, ru, n.at_⟩)) := by
    by_cases hu2 : ru = 0
    · exact .inl ⟨hu2, Lib.hid (by rw [hq, if_pos hu2])⟩
    · exact .inr ⟨by rw [beq_eq_false_iff_ne]; exact hu2, Lib.hid (by rw [hq, if_neg hu2])⟩
  have LX : ∀ W, Calls Try.prog 34 #[.int .i64 T, .int .i64 a.v] W fun e w' => e = .returned (.int .i64 x) ∧ W = w' := fun W => by have := r_wrap_c T a.v W; rwa [hx] at this
  have LY : ∀ W, Calls Try.prog 34 #[.int .i64 T, .int .i64 0] W fun e w' => e = .returned (.int .i64 y) ∧ W = w' := fun W => by have := r_wrap_c T 0 W; rwa [hy] at this
  have MC : ∀ W, Calls Try.prog 32 #[.int .i64 6, .int .i64 a.t, .int .i64 5] W fun e w' => e = .returned (.int .i64 T) ∧ W = w' := fun W => by have := r_mixed_c 6 a.t 5 W (by omega); rw [hk] at hT; rwa [hT] at this
  have LD : ∀ W, Calls Try.prog 61 #[.int .i64 6, .int .i64 T, .int .i64 x, .int .i64 y] W fun e w' => e = .returned (.tuple #[.int .i64 rv, .int .i64 ru]) ∧ W = w' := fun W => by have := r_do_c 6 T x y W; rw [hk] at hr; rwa [hr] at this
  have HU := Lib.hid hu
  have HK : Hid (n.k = 6) := Lib.hid hk
  clear hk hu hT hx hy hr hq
  unfold exA envA
  have IH2 : ∀ W, Below w.heap.size w W → Calls Try.prog 25 #[.slice A len cc, .int .i64 n.a, .agg #[.pointer v.mp, .slice v.ba v.bl v.bc, .pointer o.mp, .slice o.ba o.bl o.bc, .int .i64 res, .int .i64 t]] W fun e' w' => e' = .returned (.agg #[.int .i64 a.v, .int .i64 a.t, .int .i64 a.ub, .int .i64 a.at_]) ∧ Below W.heap.size W w' := IH
  clear IH
  go_enter Try.func42, Try.ntmps42
  go_upto_region 1 with fail
  refine at_world (fun W => NmI w W n v o res t) ⟨(by repeat' (first | exact Below.refl _ _ | (refine Below.alloc ?_ ?_ _) | (refine Below.setCell ?_ ?_ _) | (refine Below.drew ?_) | (refine below_next ?_ ?_ (by assumption)) | omega | (simp; done) | (simp; omega))), ⟨by first | (simp; done) | (simp; omega), by simp [go_sem], by simp [go_sem], by simp [go_sem], by simp [go_sem], by simp [go_sem], by simp [go_sem], by simp [go_sem]⟩, ⟨by first | (simp; done) | (simp; omega), by simp [go_sem], by simp [go_sem], by simp [go_sem], by simp [go_sem], by simp [go_sem], by simp [go_sem]⟩, ⟨by first | (simp; done) | (simp; omega), by simp [go_sem], by simp [go_sem], by simp [go_sem], by simp [go_sem], by simp [go_sem], by simp [go_sem], by simp [go_sem], by simp [go_sem]⟩⟩ ?_
  intro W0 N0
  have N := Lib.hid N0
  have n0 := (N0.b7).c0; have n1 : _ = _ := (N0.b7).box1; have n2 := (N0.b7).box2; have n3 := (N0.b7).box3; have n4 := (N0.b7).box4; have n5 := (N0.b7).box5; have n6 := (N0.b7).box6
  have e0 := (N0.b6).c0; have e1 := (N0.b6).c1; have e2 := (N0.b6).c2; have e3 := (N0.b6).c3; have e4 := (N0.b6).c4; have e5 := (N0.b6).c5
  have hsz0 : w.heap.size + 3 ≤ W0.heap.size := by have := N0.b4.lt; omega
  clear N0
  rw [HK.out] at n0
  go_upto_region 4 with (go_at_call 25; refine (IH2 _ N.out.hb).mono ?_; rintro e' w1 ⟨rfl, hb1⟩; have N := Lib.hid (N.out.below hb1); have hs1 := hb1.size; clear hb1 IH2)
  refine at_world (fun W => NmI w W n v o res t ∧ Bx4 W w1.heap.size a ∧ W.heap.size = w1.heap.size + 1) ⟨N.out.below (by repeat' (first | exact Below.refl _ _ | (refine Below.alloc ?_ ?_ _) | (refine Below.setCell ?_ ?_ _) | (refine Below.drew ?_) | (refine below_next ?_ ?_ (by assumption)) | omega | (simp; done) | (simp; omega))), ⟨by first | (simp; done) | (simp; omega), by simp [go_sem], by simp [go_sem], by simp [go_sem], by simp [go_sem], by simp [go_sem], by simp [go_sem], by simp [go_sem], by simp [go_sem]⟩, by simp⟩ ?_
  rintro W2 ⟨N2, A2, hz2⟩
  clear N n0 n1 n2 n3 n4 n5 n6 e0 e1 e2 e3 e4 e5
  have N := Lib.hid N2
  have n0 := (N2.b7).c0; have n1 : _ = _ := (N2.b7).box1; have n2 := (N2.b7).box2; have n3 := (N2.b7).box3; have n4 := (N2.b7).box4; have n5 := (N2.b7).box5; have n6 := (N2.b7).box6
  rw [HK.out] at n0
  go_upto_region 6 with fail
  refine at_world (fun W => OnI w W n v o res t w1.heap.size (w1.heap.size + 1) a ⟨0, 5, 0, 0⟩) ⟨below_next N2.hb N2.hb.size (by repeat' (first | exact Below.refl _ _ | (refine Below.alloc ?_ ?_ _) | (refine Below.setCell ?_ ?_ _) | (refine Below.drew ?_) | (refine below_next ?_ ?_ (by assumption)) | omega | (simp; done) | (simp; omega))), N2.b7.below (by repeat' (first | exact Below.refl _ _ | (refine Below.alloc ?_ ?_ _) | (refine Below.setCell ?_ ?_ _) | (refine Below.drew ?_) | (refine below_next ?_ ?_ (by assumption)) | omega | (simp; done) | (simp; omega))), N2.b6.below (by repeat' (first | exact Below.refl _ _ | (refine Below.alloc ?_ ?_ _) | (refine Below.setCell ?_ ?_ _) | (refine Below.drew ?_) | (refine below_next ?_ ?_ (by assumption)) | omega | (simp; done) | (simp; omega))), N2.b4.below (by repeat' (first | exact Below.refl _ _ | (refine Below.alloc ?_ ?_ _) | (refine Below.setCell ?_ ?_ _) | (refine Below.drew ?_) | (refine below_next ?_ ?_ (by assumption)) | omega | (simp; done) | (simp; omega))), A2.below (by repeat' (first | exact Below.refl _ _ | (refine Below.alloc ?_ ?_ _) | (refine Below.setCell ?_ ?_ _) | (refine Below.drew ?_) | (refine below_next ?_ ?_ (by assumption)) | omega | (simp; done) | (simp; omega))), by rw [← hz2]; exact ⟨by first | (simp; done) | (simp; omega), by simp [go_sem], by simp [go_sem], by simp [go_sem], by simp [go_sem], by simp [go_sem], by simp [go_sem], by simp [go_sem], by simp [go_sem]⟩, by omega, by omega⟩ ?_
  intro W3 O3
  obtain ⟨D3, hD3⟩ : ∃ x, w1.heap.size = x := ⟨_, rfl⟩
  simp only [hz2, hD3] at O3 ⊢
  clear hD3 hz2 N2 A2 N hsz0 hs1 n0 n1 n2 n3 n4 n5 n6
  have O := Lib.hid O3
  have n0 := (O3.b7).c0; have n1 : _ = _ := (O3.b7).box1; have n2 := (O3.b7).box2; have n3 := (O3.b7).box3; have n4 := (O3.b7).box4; have n5 := (O3.b7).box5; have n6 := (O3.b7).box6; have e0 := (O3.b6).c0; have e1 := (O3.b6).c1; have e2 := (O3.b6).c2; have e3 := (O3.b6).c3; have e4 := (O3.b6).c4; have e5 := (O3.b6).c5; have r0 := (O3.r4).c0; have r1 := (O3.r4).c1; have r2 := (O3.r4).c2; have r3 := (O3.r4).c3; have rf0 := (O3.r4).f0; have rf1 := (O3.r4).f1; have rf2 := (O3.r4).f2; have rf3 := (O3.r4).f3; have x0 := (O3.a4).c0; have x1 := (O3.a4).c1; have x2 := (O3.a4).c2; have x3 := (O3.a4).c3; have xf0 := (O3.a4).f0; have xf1 := (O3.a4).f1; have xf2 := (O3.a4).f2; have xf3 := (O3.a4).f3; have y0 := (O3.d4).c0; have y1 := (O3.d4).c1; have y2 := (O3.d4).c2; have y3 := (O3.d4).c3; have yf0 := (O3.d4).f0; have yf1 := (O3.d4).f1; have yf2 := (O3.d4).f2; have yf3 := (O3.d4).f3
  have h3 := O3.h3
  clear O3
  rw [HK.out] at n0
  rw [HU.out] at x2
  go_upto_region 13 with (go_at_call 32; refine (MC _).mono ?_; rintro e' w9 ⟨rfl, rfl⟩; clear MC)
  refine at_world (fun W => OnI w W n v o res t D3 (D3 + 1) a ⟨0, 5, 0, 0⟩) (O.out.setV 0) ?_
  intro W9 O6
  clear n0 n1 n2 n3 n4 n5 n6 e0 e1 e2 e3 e4 e5 r0 r1 r2 r3 rf0 rf1 rf2 rf3 x0 x1 x2 x3 xf0 xf1 xf2 xf3 y0 y1 y2 y3 yf0 yf1 yf2 yf3 O
  have O := Lib.hid O6
  have n0 := (O6.b7).c0; have n1 : _ = _ := (O6.b7).box1; have n2 := (O6.b7).box2; have n3 := (O6.b7).box3; have n4 := (O6.b7).box4; have n5 := (O6.b7).box5; have n6 := (O6.b7).box6; have e0 := (O6.b6).c0; have e1 := (O6.b6).c1; have e2 := (O6.b6).c2; have e3 := (O6.b6).c3; have e4 := (O6.b6).c4; have e5 := (O6.b6).c5; have r0 := (O6.r4).c0; have r1 := (O6.r4).c1; have r2 := (O6.r4).c2; have r3 := (O6.r4).c3; have rf0 := (O6.r4).f0; have rf1 := (O6.r4).f1; have rf2 := (O6.r4).f2; have rf3 := (O6.r4).f3; have x0 := (O6.a4).c0; have x1 := (O6.a4).c1; have x2 := (O6.a4).c2; have x3 := (O6.a4).c3; have xf0 := (O6.a4).f0; have xf1 := (O6.a4).f1; have xf2 := (O6.a4).f2; have xf3 := (O6.a4).f3; have y0 := (O6.d4).c0; have y1 := (O6.d4).c1; have y2 := (O6.d4).c2; have y3 := (O6.d4).c3; have yf0 := (O6.d4).f0; have yf1 := (O6.d4).f1; have yf2 := (O6.d4).f2; have yf3 := (O6.d4).f3
  clear O6
  rw [HK.out] at n0
  rw [HU.out] at x2
  go_upto_region 22 with (go_at_call 34; refine (LY _).mono ?_; rintro e' w9 ⟨rfl, rfl⟩; clear LY)
  have d0 := fun (x' : WIn (Below W9.heap.size W9)) => cell_later x'.h n0
  have d1 := fun (x' : WIn (Below W9.heap.size W9)) => cell_later x'.h x0
  refine region_in (Below W9.heap.size W9) (by kernel_rfl) (by kernel_rfl) (Below.refl _ _).drew (fun inst => ?_)
  iterate 14 (go_big_quiet_step (first | (go_at_call 34; exact call_same _ (LX _)) | (go_at_call 61; exact call_same _ (LD _))))
  refine wpQuiet_nil ?_
  intro wd hbd
  have O := Lib.hid (O.out.below hbd)
  clear hbd d0 d1 LX LD n0 n1 n2 n3 n4 n5 n6 e0 e1 e2 e3 e4 e5 r0 r1 r2 r3 rf0 rf1 rf2 rf3 x0 x1 x2 x3 xf0 xf1 xf2 xf3 y0 y1 y2 y3 yf0 yf1 yf2 yf3
  have n0 := (O.out.b7).c0; have n1 : _ = _ := (O.out.b7).box1; have n2 := (O.out.b7).box2; have n3 := (O.out.b7).box3; have n4 := (O.out.b7).box4; have n5 := (O.out.b7).box5; have n6 := (O.out.b7).box6; have e0 := (O.out.b6).c0; have e1 := (O.out.b6).c1; have e2 := (O.out.b6).c2; have e3 := (O.out.b6).c3; have e4 := (O.out.b6).c4; have e5 := (O.out.b6).c5; have r0 := (O.out.r4).c0; have r1 := (O.out.r4).c1; have r2 := (O.out.r4).c2; have r3 := (O.out.r4).c3; have rf0 := (O.out.r4).f0; have rf1 := (O.out.r4).f1; have rf2 := (O.out.r4).f2; have rf3 := (O.out.r4).f3; have x0 := (O.out.a4).c0; have x1 := (O.out.a4).c1; have x2 := (O.out.a4).c2; have x3 := (O.out.a4).c3; have xf0 := (O.out.a4).f0; have xf1 := (O.out.a4).f1; have xf2 := (O.out.a4).f2; have xf3 := (O.out.a4).f3; have y0 := (O.out.d4).c0; have y1 := (O.out.d4).c1; have y2 := (O.out.d4).c2; have y3 := (O.out.d4).c3; have yf0 := (O.out.d4).f0; have yf1 := (O.out.d4).f1; have yf2 := (O.out.d4).f2; have yf3 := (O.out.d4).f3
  rcases HPP with ⟨rfl, HG⟩ | ⟨g3, HG⟩
  · have HE := HG.out
    subst HE
    go_wp2_with fail
    exact bodyPost_ret (v := gtV ⟨rv, T, 0, 0⟩) (by simp [results, Try.results42, go_sem, r0, r1, r2, r3, rf0, rf1, rf2, rf3, gtV]) rfl ⟨rfl, set4 O.out.hb (by omega) _ _ _ _⟩
  · have HE := HG.out
    subst HE
    have g3' : (ru != 0) = true := by rw [bne, g3]; rfl
    go_wp2_with fail
    exact bodyPost_ret (v := gtV ⟨0, T, ru, n.at_⟩) (by simp [results, Try.results42, go_sem, r0, r1, r2, r3, rf0, rf1, rf2, rf3, gtV]) rfl ⟨rfl, set4 O.out.hb (by omega) _ _ _ _⟩
set_option maxRecDepth 100000 in
set_option maxHeartbeats 6400000 in
theorem rn_und7 (n : Ex) (v o : NV) (res t : Int) (A : Option Addr) (len cc : Nat) (a b : Gt) (w : World) (hk : n.k = 7) (hu : a.ub = 0) (T x y rv ru : Int) (hT : mixT n.k a.t 5 = T) (hx : wrapT T a.v = x) (hy : wrapT T 0 = y) (hr : doI n.k T x y = (rv, ru)) (q : Gt) (hq : q = if ru = 0 then ⟨rv, T, 0, 0⟩ else ⟨0, T, ru, n.at_⟩)  (IH : ∀ W, Below w.heap.size w W → Calls Try.prog 25 #[.slice A len cc, .int .i64 n.a, envA v o res t] W fun e' w' => e' = .returned (gtV a) ∧ Below W.heap.size W w')
     :
    Calls Try.prog 42 #[.slice A len cc, exA n, envA v o res t] w fun e' w' => e' = .returned (gtV (q)) ∧ Below w.heap.size w w' := by
  have HPP : (ru = 0 ∧ Hid (q = ⟨rv, T, 0, 0⟩)) ∨ ((ru == 0) = false ∧ Hid (q = ⟨0, T, ru, n.at_⟩)) := by
    by_cases hu2 : ru = 0
    · exact .inl ⟨hu2, Lib.hid (by rw [hq, if_pos hu2])⟩
    · exact .inr ⟨by rw [beq_eq_false_iff_ne]; exact hu2, Lib.hid (by rw [hq, if_neg hu2])⟩
  have LX : ∀ W, Calls Try.prog 34 #[.int .i64 T, .int .i64 a.v] W fun e w' => e = .returned (.int .i64 x) ∧ W = w' := fun W => by have := r_wrap_c T a.v W; rwa [hx] at this
  have LY : ∀ W, Calls Try.prog 34 #[.int .i64 T, .int .i64 0] W fun e w' => e = .returned (.int .i64 y) ∧ W = w' := fun W => by have := r_wrap_c T 0 W; rwa [hy] at this
  have MC : ∀ W, Calls Try.prog 32 #[.int .i64 7, .int .i64 a.t, .int .i64 5] W fun e w' => e = .returned (.int .i64 T) ∧ W = w' := fun W => by have := r_mixed_c 7 a.t 5 W (by omega); rw [hk] at hT; rwa [hT] at this
  have LD : ∀ W, Calls Try.prog 61 #[.int .i64 7, .int .i64 T, .int .i64 x, .int .i64 y] W fun e w' => e = .returned (.tuple #[.int .i64 rv, .int .i64 ru]) ∧ W = w' := fun W => by have := r_do_c 7 T x y W; rw [hk] at hr; rwa [hr] at this
  have HU := Lib.hid hu
  have HK : Hid (n.k = 7) := Lib.hid hk
  clear hk hu hT hx hy hr hq
  unfold exA envA
  have IH2 : ∀ W, Below w.heap.size w W → Calls Try.prog 25 #[.slice A len cc, .int .i64 n.a, .agg #[.pointer v.mp, .slice v.ba v.bl v.bc, .pointer o.mp, .slice o.ba o.bl o.bc, .int .i64 res, .int .i64 t]] W fun e' w' => e' = .returned (.agg #[.int .i64 a.v, .int .i64 a.t, .int .i64 a.ub, .int .i64 a.at_]) ∧ Below W.heap.size W w' := IH
  clear IH
  go_enter Try.func42, Try.ntmps42
  go_upto_region 1 with fail
  refine at_world (fun W => NmI w W n v o res t) ⟨(by repeat' (first | exact Below.refl _ _ | (refine Below.alloc ?_ ?_ _) | (refine Below.setCell ?_ ?_ _) | (refine Below.drew ?_) | (refine below_next ?_ ?_ (by assumption)) | omega | (simp; done) | (simp; omega))), ⟨by first | (simp; done) | (simp; omega), by simp [go_sem], by simp [go_sem], by simp [go_sem], by simp [go_sem], by simp [go_sem], by simp [go_sem], by simp [go_sem]⟩, ⟨by first | (simp; done) | (simp; omega), by simp [go_sem], by simp [go_sem], by simp [go_sem], by simp [go_sem], by simp [go_sem], by simp [go_sem]⟩, ⟨by first | (simp; done) | (simp; omega), by simp [go_sem], by simp [go_sem], by simp [go_sem], by simp [go_sem], by simp [go_sem], by simp [go_sem], by simp [go_sem], by simp [go_sem]⟩⟩ ?_
  intro W0 N0
  have N := Lib.hid N0
  have n0 := (N0.b7).c0; have n1 : _ = _ := (N0.b7).box1; have n2 := (N0.b7).box2; have n3 := (N0.b7).box3; have n4 := (N0.b7).box4; have n5 := (N0.b7).box5; have n6 := (N0.b7).box6
  have e0 := (N0.b6).c0; have e1 := (N0.b6).c1; have e2 := (N0.b6).c2; have e3 := (N0.b6).c3; have e4 := (N0.b6).c4; have e5 := (N0.b6).c5
  have hsz0 : w.heap.size + 3 ≤ W0.heap.size := by have := N0.b4.lt; omega
  clear N0
  rw [HK.out] at n0
  go_upto_region 4 with (go_at_call 25; refine (IH2 _ N.out.hb).mono ?_; rintro e' w1 ⟨rfl, hb1⟩; have N := Lib.hid (N.out.below hb1); have hs1 := hb1.size; clear hb1 IH2)
  refine at_world (fun W => NmI w W n v o res t ∧ Bx4 W w1.heap.size a ∧ W.heap.size = w1.heap.size + 1) ⟨N.out.below (by repeat' (first | exact Below.refl _ _ | (refine Below.alloc ?_ ?_ _) | (refine Below.setCell ?_ ?_ _) | (refine Below.drew ?_) | (refine below_next ?_ ?_ (by assumption)) | omega | (simp; done) | (simp; omega))), ⟨by first | (simp; done) | (simp; omega), by simp [go_sem], by simp [go_sem], by simp [go_sem], by simp [go_sem], by simp [go_sem], by simp [go_sem], by simp [go_sem], by simp [go_sem]⟩, by simp⟩ ?_
  rintro W2 ⟨N2, A2, hz2⟩
  clear N n0 n1 n2 n3 n4 n5 n6 e0 e1 e2 e3 e4 e5
  have N := Lib.hid N2
  have n0 := (N2.b7).c0; have n1 : _ = _ := (N2.b7).box1; have n2 := (N2.b7).box2; have n3 := (N2.b7).box3; have n4 := (N2.b7).box4; have n5 := (N2.b7).box5; have n6 := (N2.b7).box6
  rw [HK.out] at n0
  go_upto_region 6 with fail
  refine at_world (fun W => OnI w W n v o res t w1.heap.size (w1.heap.size + 1) a ⟨0, 5, 0, 0⟩) ⟨below_next N2.hb N2.hb.size (by repeat' (first | exact Below.refl _ _ | (refine Below.alloc ?_ ?_ _) | (refine Below.setCell ?_ ?_ _) | (refine Below.drew ?_) | (refine below_next ?_ ?_ (by assumption)) | omega | (simp; done) | (simp; omega))), N2.b7.below (by repeat' (first | exact Below.refl _ _ | (refine Below.alloc ?_ ?_ _) | (refine Below.setCell ?_ ?_ _) | (refine Below.drew ?_) | (refine below_next ?_ ?_ (by assumption)) | omega | (simp; done) | (simp; omega))), N2.b6.below (by repeat' (first | exact Below.refl _ _ | (refine Below.alloc ?_ ?_ _) | (refine Below.setCell ?_ ?_ _) | (refine Below.drew ?_) | (refine below_next ?_ ?_ (by assumption)) | omega | (simp; done) | (simp; omega))), N2.b4.below (by repeat' (first | exact Below.refl _ _ | (refine Below.alloc ?_ ?_ _) | (refine Below.setCell ?_ ?_ _) | (refine Below.drew ?_) | (refine below_next ?_ ?_ (by assumption)) | omega | (simp; done) | (simp; omega))), A2.below (by repeat' (first | exact Below.refl _ _ | (refine Below.alloc ?_ ?_ _) | (refine Below.setCell ?_ ?_ _) | (refine Below.drew ?_) | (refine below_next ?_ ?_ (by assumption)) | omega | (simp; done) | (simp; omega))), by rw [← hz2]; exact ⟨by first | (simp; done) | (simp; omega), by simp [go_sem], by simp [go_sem], by simp [go_sem], by simp [go_sem], by simp [go_sem], by simp [go_sem], by simp [go_sem], by simp [go_sem]⟩, by omega, by omega⟩ ?_
  intro W3 O3
  obtain ⟨D3, hD3⟩ : ∃ x, w1.heap.size = x := ⟨_, rfl⟩
  simp only [hz2, hD3] at O3 ⊢
  clear hD3 hz2 N2 A2 N hsz0 hs1 n0 n1 n2 n3 n4 n5 n6
  have O := Lib.hid O3
  have n0 := (O3.b7).c0; have n1 : _ = _ := (O3.b7).box1; have n2 := (O3.b7).box2; have n3 := (O3.b7).box3; have n4 := (O3.b7).box4; have n5 := (O3.b7).box5; have n6 := (O3.b7).box6; have e0 := (O3.b6).c0; have e1 := (O3.b6).c1; have e2 := (O3.b6).c2; have e3 := (O3.b6).c3; have e4 := (O3.b6).c4; have e5 := (O3.b6).c5; have r0 := (O3.r4).c0; have r1 := (O3.r4).c1; have r2 := (O3.r4).c2; have r3 := (O3.r4).c3; have rf0 := (O3.r4).f0; have rf1 := (O3.r4).f1; have rf2 := (O3.r4).f2; have rf3 := (O3.r4).f3; have x0 := (O3.a4).c0; have x1 := (O3.a4).c1; have x2 := (O3.a4).c2; have x3 := (O3.a4).c3; have xf0 := (O3.a4).f0; have xf1 := (O3.a4).f1; have xf2 := (O3.a4).f2; have xf3 := (O3.a4).f3; have y0 := (O3.d4).c0; have y1 := (O3.d4).c1; have y2 := (O3.d4).c2; have y3 := (O3.d4).c3; have yf0 := (O3.d4).f0; have yf1 := (O3.d4).f1; have yf2 := (O3.d4).f2; have yf3 := (O3.d4).f3
  have h3 := O3.h3
  clear O3
  rw [HK.out] at n0
  rw [HU.out] at x2
  go_upto_region 13 with (go_at_call 32; refine (MC _).mono ?_; rintro e' w9 ⟨rfl, rfl⟩; clear MC)
  refine at_world (fun W => OnI w W n v o res t D3 (D3 + 1) a ⟨0, 5, 0, 0⟩) (O.out.setV 0) ?_
  intro W9 O6
  clear n0 n1 n2 n3 n4 n5 n6 e0 e1 e2 e3 e4 e5 r0 r1 r2 r3 rf0 rf1 rf2 rf3 x0 x1 x2 x3 xf0 xf1 xf2 xf3 y0 y1 y2 y3 yf0 yf1 yf2 yf3 O
  have O := Lib.hid O6
  have n0 := (O6.b7).c0; have n1 : _ = _ := (O6.b7).box1; have n2 := (O6.b7).box2; have n3 := (O6.b7).box3; have n4 := (O6.b7).box4; have n5 := (O6.b7).box5; have n6 := (O6.b7).box6; have e0 := (O6.b6).c0; have e1 := (O6.b6).c1; have e2 := (O6.b6).c2; have e3 := (O6.b6).c3; have e4 := (O6.b6).c4; have e5 := (O6.b6).c5; have r0 := (O6.r4).c0; have r1 := (O6.r4).c1; have r2 := (O6.r4).c2; have r3 := (O6.r4).c3; have rf0 := (O6.r4).f0; have rf1 := (O6.r4).f1; have rf2 := (O6.r4).f2; have rf3 := (O6.r4).f3; have x0 := (O6.a4).c0; have x1 := (O6.a4).c1; have x2 := (O6.a4).c2; have x3 := (O6.a4).c3; have xf0 := (O6.a4).f0; have xf1 := (O6.a4).f1; have xf2 := (O6.a4).f2; have xf3 := (O6.a4).f3; have y0 := (O6.d4).c0; have y1 := (O6.d4).c1; have y2 := (O6.d4).c2; have y3 := (O6.d4).c3; have yf0 := (O6.d4).f0; have yf1 := (O6.d4).f1; have yf2 := (O6.d4).f2; have yf3 := (O6.d4).f3
  clear O6
  rw [HK.out] at n0
  rw [HU.out] at x2
  go_upto_region 22 with (go_at_call 34; refine (LY _).mono ?_; rintro e' w9 ⟨rfl, rfl⟩; clear LY)
  have d0 := fun (x' : WIn (Below W9.heap.size W9)) => cell_later x'.h n0
  have d1 := fun (x' : WIn (Below W9.heap.size W9)) => cell_later x'.h x0
  refine region_in (Below W9.heap.size W9) (by kernel_rfl) (by kernel_rfl) (Below.refl _ _).drew (fun inst => ?_)
  iterate 14 (go_big_quiet_step (first | (go_at_call 34; exact call_same _ (LX _)) | (go_at_call 61; exact call_same _ (LD _))))
  refine wpQuiet_nil ?_
  intro wd hbd
  have O := Lib.hid (O.out.below hbd)
  clear hbd d0 d1 LX LD n0 n1 n2 n3 n4 n5 n6 e0 e1 e2 e3 e4 e5 r0 r1 r2 r3 rf0 rf1 rf2 rf3 x0 x1 x2 x3 xf0 xf1 xf2 xf3 y0 y1 y2 y3 yf0 yf1 yf2 yf3
  have n0 := (O.out.b7).c0; have n1 : _ = _ := (O.out.b7).box1; have n2 := (O.out.b7).box2; have n3 := (O.out.b7).box3; have n4 := (O.out.b7).box4; have n5 := (O.out.b7).box5; have n6 := (O.out.b7).box6; have e0 := (O.out.b6).c0; have e1 := (O.out.b6).c1; have e2 := (O.out.b6).c2; have e3 := (O.out.b6).c3; have e4 := (O.out.b6).c4; have e5 := (O.out.b6).c5; have r0 := (O.out.r4).c0; have r1 := (O.out.r4).c1; have r2 := (O.out.r4).c2; have r3 := (O.out.r4).c3; have rf0 := (O.out.r4).f0; have rf1 := (O.out.r4).f1; have rf2 := (O.out.r4).f2; have rf3 := (O.out.r4).f3; have x0 := (O.out.a4).c0; have x1 := (O.out.a4).c1; have x2 := (O.out.a4).c2; have x3 := (O.out.a4).c3; have xf0 := (O.out.a4).f0; have xf1 := (O.out.a4).f1; have xf2 := (O.out.a4).f2; have xf3 := (O.out.a4).f3; have y0 := (O.out.d4).c0; have y1 := (O.out.d4).c1; have y2 := (O.out.d4).c2; have y3 := (O.out.d4).c3; have yf0 := (O.out.d4).f0; have yf1 := (O.out.d4).f1; have yf2 := (O.out.d4).f2; have yf3 := (O.out.d4).f3
  rcases HPP with ⟨rfl, HG⟩ | ⟨g3, HG⟩
  · have HE := HG.out
    subst HE
    go_wp2_with fail
    exact bodyPost_ret (v := gtV ⟨rv, T, 0, 0⟩) (by simp [results, Try.results42, go_sem, r0, r1, r2, r3, rf0, rf1, rf2, rf3, gtV]) rfl ⟨rfl, set4 O.out.hb (by omega) _ _ _ _⟩
  · have HE := HG.out
    subst HE
    have g3' : (ru != 0) = true := by rw [bne, g3]; rfl
    go_wp2_with fail
    exact bodyPost_ret (v := gtV ⟨0, T, ru, n.at_⟩) (by simp [results, Try.results42, go_sem, r0, r1, r2, r3, rf0, rf1, rf2, rf3, gtV]) rfl ⟨rfl, set4 O.out.hb (by omega) _ _ _ _⟩
set_option maxRecDepth 100000 in
set_option maxHeartbeats 6400000 in
theorem rn_bin1 (n : Ex) (v o : NV) (res t : Int) (A : Option Addr) (len cc : Nat) (a b : Gt) (w : World) (hk : 8 ≤ n.k) (hk' : n.k ≤ 17) (T : Int) (hT : mixT n.k a.t b.t = T) (hu : a.ub ≠ 0) (IH : ∀ W, Below w.heap.size w W → Calls Try.prog 25 #[.slice A len cc, .int .i64 n.a, envA v o res t] W fun e' w' => e' = .returned (gtV a) ∧ Below W.heap.size W w')
    (IB : ∀ W, Below w.heap.size w W → Calls Try.prog 25 #[.slice A len cc, .int .i64 n.b, envA v o res t] W fun e' w' => e' = .returned (gtV b) ∧ Below W.heap.size W w') :
    Calls Try.prog 42 #[.slice A len cc, exA n, envA v o res t] w fun e' w' => e' = .returned (gtV (⟨0, T, a.ub, a.at_⟩)) ∧ Below w.heap.size w w' := by
  have MC : ∀ W, Calls Try.prog 32 #[.int .i64 n.k, .int .i64 a.t, .int .i64 b.t] W fun e w' => e = .returned (.int .i64 T) ∧ W = w' := fun W => by have := r_mixed_c n.k a.t b.t W (by omega); rwa [hT] at this
  have u0 : (a.ub == 0) = false := by rw [beq_eq_false_iff_ne]; exact hu
  have u1 : (a.ub != 0) = true := by rw [bne, u0]; rfl
  clear hu hT
  obtain ⟨kk, hkk⟩ : ∃ k, n.k = k := ⟨_, rfl⟩
  rw [hkk] at hk hk' MC
  have HK := Lib.hid hkk
  clear hkk
  have k6 : (kk == 6) = false := by rw [beq_eq_false_iff_ne]; omega
  have k7 : (kk == 7) = false := by rw [beq_eq_false_iff_ne]; omega
  have k18 : (kk == 18) = false := by rw [beq_eq_false_iff_ne]; omega
  have k18' : (kk != 18) = true := by rw [bne, k18]; rfl
  have q6 : decide (kk < 6) = false := decide_eq_false (by omega)
  have q18 : decide (18 < kk) = false := decide_eq_false (by omega)
  unfold exA envA
  have IH2 : ∀ W, Below w.heap.size w W → Calls Try.prog 25 #[.slice A len cc, .int .i64 n.a, .agg #[.pointer v.mp, .slice v.ba v.bl v.bc, .pointer o.mp, .slice o.ba o.bl o.bc, .int .i64 res, .int .i64 t]] W fun e' w' => e' = .returned (.agg #[.int .i64 a.v, .int .i64 a.t, .int .i64 a.ub, .int .i64 a.at_]) ∧ Below W.heap.size W w' := IH
  clear IH
  have IB2 : ∀ W, Below w.heap.size w W → Calls Try.prog 25 #[.slice A len cc, .int .i64 n.b, .agg #[.pointer v.mp, .slice v.ba v.bl v.bc, .pointer o.mp, .slice o.ba o.bl o.bc, .int .i64 res, .int .i64 t]] W fun e' w' => e' = .returned (.agg #[.int .i64 b.v, .int .i64 b.t, .int .i64 b.ub, .int .i64 b.at_]) ∧ Below W.heap.size W w' := IB
  clear IB
  go_enter Try.func42, Try.ntmps42
  go_upto_region 1 with fail
  refine at_world (fun W => NmI w W n v o res t) ⟨(by repeat' (first | exact Below.refl _ _ | (refine Below.alloc ?_ ?_ _) | (refine Below.setCell ?_ ?_ _) | (refine Below.drew ?_) | (refine below_next ?_ ?_ (by assumption)) | omega | (simp; done) | (simp; omega))), ⟨by first | (simp; done) | (simp; omega), by simp [go_sem], by simp [go_sem], by simp [go_sem], by simp [go_sem], by simp [go_sem], by simp [go_sem], by simp [go_sem]⟩, ⟨by first | (simp; done) | (simp; omega), by simp [go_sem], by simp [go_sem], by simp [go_sem], by simp [go_sem], by simp [go_sem], by simp [go_sem]⟩, ⟨by first | (simp; done) | (simp; omega), by simp [go_sem], by simp [go_sem], by simp [go_sem], by simp [go_sem], by simp [go_sem], by simp [go_sem], by simp [go_sem], by simp [go_sem]⟩⟩ ?_
  intro W0 N0
  have N := Lib.hid N0
  have n0 := (N0.b7).c0; have n1 : _ = _ := (N0.b7).box1; have n2 := (N0.b7).box2; have n3 := (N0.b7).box3; have n4 := (N0.b7).box4; have n5 := (N0.b7).box5; have n6 := (N0.b7).box6
  have e0 := (N0.b6).c0; have e1 := (N0.b6).c1; have e2 := (N0.b6).c2; have e3 := (N0.b6).c3; have e4 := (N0.b6).c4; have e5 := (N0.b6).c5
  have hsz0 : w.heap.size + 3 ≤ W0.heap.size := by have := N0.b4.lt; omega
  clear N0
  rw [HK.out] at n0
  go_upto_region 4 with (go_at_call 25; refine (IH2 _ N.out.hb).mono ?_; rintro e' w1 ⟨rfl, hb1⟩; have N := Lib.hid (N.out.below hb1); have hs1 := hb1.size; clear hb1 IH2)
  refine at_world (fun W => NmI w W n v o res t ∧ Bx4 W w1.heap.size a ∧ W.heap.size = w1.heap.size + 1) ⟨N.out.below (by repeat' (first | exact Below.refl _ _ | (refine Below.alloc ?_ ?_ _) | (refine Below.setCell ?_ ?_ _) | (refine Below.drew ?_) | (refine below_next ?_ ?_ (by assumption)) | omega | (simp; done) | (simp; omega))), ⟨by first | (simp; done) | (simp; omega), by simp [go_sem], by simp [go_sem], by simp [go_sem], by simp [go_sem], by simp [go_sem], by simp [go_sem], by simp [go_sem], by simp [go_sem]⟩, by simp⟩ ?_
  rintro W2 ⟨N2, A2, hz2⟩
  clear N n0 n1 n2 n3 n4 n5 n6 e0 e1 e2 e3 e4 e5
  have N := Lib.hid N2
  have n0 := (N2.b7).c0; have n1 : _ = _ := (N2.b7).box1; have n2 := (N2.b7).box2; have n3 := (N2.b7).box3; have n4 := (N2.b7).box4; have n5 := (N2.b7).box5; have n6 := (N2.b7).box6
  rw [HK.out] at n0
  go_upto_region 6 with fail
  refine at_world (fun W => OnI w W n v o res t w1.heap.size (w1.heap.size + 1) a ⟨0, 5, 0, 0⟩) ⟨below_next N2.hb N2.hb.size (by repeat' (first | exact Below.refl _ _ | (refine Below.alloc ?_ ?_ _) | (refine Below.setCell ?_ ?_ _) | (refine Below.drew ?_) | (refine below_next ?_ ?_ (by assumption)) | omega | (simp; done) | (simp; omega))), N2.b7.below (by repeat' (first | exact Below.refl _ _ | (refine Below.alloc ?_ ?_ _) | (refine Below.setCell ?_ ?_ _) | (refine Below.drew ?_) | (refine below_next ?_ ?_ (by assumption)) | omega | (simp; done) | (simp; omega))), N2.b6.below (by repeat' (first | exact Below.refl _ _ | (refine Below.alloc ?_ ?_ _) | (refine Below.setCell ?_ ?_ _) | (refine Below.drew ?_) | (refine below_next ?_ ?_ (by assumption)) | omega | (simp; done) | (simp; omega))), N2.b4.below (by repeat' (first | exact Below.refl _ _ | (refine Below.alloc ?_ ?_ _) | (refine Below.setCell ?_ ?_ _) | (refine Below.drew ?_) | (refine below_next ?_ ?_ (by assumption)) | omega | (simp; done) | (simp; omega))), A2.below (by repeat' (first | exact Below.refl _ _ | (refine Below.alloc ?_ ?_ _) | (refine Below.setCell ?_ ?_ _) | (refine Below.drew ?_) | (refine below_next ?_ ?_ (by assumption)) | omega | (simp; done) | (simp; omega))), by rw [← hz2]; exact ⟨by first | (simp; done) | (simp; omega), by simp [go_sem], by simp [go_sem], by simp [go_sem], by simp [go_sem], by simp [go_sem], by simp [go_sem], by simp [go_sem], by simp [go_sem]⟩, by omega, by omega⟩ ?_
  intro W3 O3
  obtain ⟨D3, hD3⟩ : ∃ x, w1.heap.size = x := ⟨_, rfl⟩
  simp only [hz2, hD3] at O3 ⊢
  clear hD3 hz2 N2 A2 N hsz0 hs1 n0 n1 n2 n3 n4 n5 n6
  have O := Lib.hid O3
  have n0 := (O3.b7).c0; have n1 : _ = _ := (O3.b7).box1; have n2 := (O3.b7).box2; have n3 := (O3.b7).box3; have n4 := (O3.b7).box4; have n5 := (O3.b7).box5; have n6 := (O3.b7).box6; have e0 := (O3.b6).c0; have e1 := (O3.b6).c1; have e2 := (O3.b6).c2; have e3 := (O3.b6).c3; have e4 := (O3.b6).c4; have e5 := (O3.b6).c5; have r0 := (O3.r4).c0; have r1 := (O3.r4).c1; have r2 := (O3.r4).c2; have r3 := (O3.r4).c3; have rf0 := (O3.r4).f0; have rf1 := (O3.r4).f1; have rf2 := (O3.r4).f2; have rf3 := (O3.r4).f3; have x0 := (O3.a4).c0; have x1 := (O3.a4).c1; have x2 := (O3.a4).c2; have x3 := (O3.a4).c3; have xf0 := (O3.a4).f0; have xf1 := (O3.a4).f1; have xf2 := (O3.a4).f2; have xf3 := (O3.a4).f3; have y0 := (O3.d4).c0; have y1 := (O3.d4).c1; have y2 := (O3.d4).c2; have y3 := (O3.d4).c3; have yf0 := (O3.d4).f0; have yf1 := (O3.d4).f1; have yf2 := (O3.d4).f2; have yf3 := (O3.d4).f3
  have h3 := O3.h3
  clear O3
  rw [HK.out] at n0
  go_upto_region 8 with (go_at_call 25; refine (IB2 _ O.out.hb).mono ?_; rintro e' w5 ⟨rfl, hb5⟩; have O5 := O.out.below hb5; have O := Lib.hid O5; have z0 := (O5.d4).c0; have z1 := (O5.d4).c1; have z2 := (O5.d4).c2; have z3 := (O5.d4).c3; have zf0 := (O5.d4).f0; have zf1 := (O5.d4).f1; have zf2 := (O5.d4).f2; have zf3 := (O5.d4).f3; clear hb5 IB2 O5)
  refine at_world (fun W => OnI w W n v o res t D3 (D3 + 1) a b) (O.out.set b) ?_
  intro W6 O6
  clear n0 n1 n2 n3 n4 n5 n6 e0 e1 e2 e3 e4 e5 r0 r1 r2 r3 rf0 rf1 rf2 rf3 x0 x1 x2 x3 xf0 xf1 xf2 xf3 y0 y1 y2 y3 yf0 yf1 yf2 yf3 O z0 zf0 z1 zf1 z2 zf2 z3 zf3
  have O := Lib.hid O6
  have n0 := (O6.b7).c0; have n1 : _ = _ := (O6.b7).box1; have n2 := (O6.b7).box2; have n3 := (O6.b7).box3; have n4 := (O6.b7).box4; have n5 := (O6.b7).box5; have n6 := (O6.b7).box6; have e0 := (O6.b6).c0; have e1 := (O6.b6).c1; have e2 := (O6.b6).c2; have e3 := (O6.b6).c3; have e4 := (O6.b6).c4; have e5 := (O6.b6).c5; have r0 := (O6.r4).c0; have r1 := (O6.r4).c1; have r2 := (O6.r4).c2; have r3 := (O6.r4).c3; have rf0 := (O6.r4).f0; have rf1 := (O6.r4).f1; have rf2 := (O6.r4).f2; have rf3 := (O6.r4).f3; have x0 := (O6.a4).c0; have x1 := (O6.a4).c1; have x2 := (O6.a4).c2; have x3 := (O6.a4).c3; have xf0 := (O6.a4).f0; have xf1 := (O6.a4).f1; have xf2 := (O6.a4).f2; have xf3 := (O6.a4).f3; have y0 := (O6.d4).c0; have y1 := (O6.d4).c1; have y2 := (O6.d4).c2; have y3 := (O6.d4).c3; have yf0 := (O6.d4).f0; have yf1 := (O6.d4).f1; have yf2 := (O6.d4).f2; have yf3 := (O6.d4).f3
  clear O6
  rw [HK.out] at n0
  go_wp2_with (go_at_call 32; refine (MC _).mono ?_; rintro e' w9 ⟨rfl, rfl⟩; clear MC)
  exact bodyPost_ret (v := gtV ⟨0, T, a.ub, a.at_⟩) (by simp [results, Try.results42, go_sem, r0, r1, r2, r3, rf0, rf1, rf2, rf3, gtV]) rfl ⟨rfl, set4 O.out.hb (by omega) _ _ _ _⟩
set_option maxRecDepth 100000 in
set_option maxHeartbeats 6400000 in
theorem rn_bin2 (n : Ex) (v o : NV) (res t : Int) (A : Option Addr) (len cc : Nat) (a b : Gt) (w : World) (hk : 8 ≤ n.k) (hk' : n.k ≤ 17) (T : Int) (hT : mixT n.k a.t b.t = T) (hu : a.ub = 0) (hv : b.ub ≠ 0) (IH : ∀ W, Below w.heap.size w W → Calls Try.prog 25 #[.slice A len cc, .int .i64 n.a, envA v o res t] W fun e' w' => e' = .returned (gtV a) ∧ Below W.heap.size W w')
    (IB : ∀ W, Below w.heap.size w W → Calls Try.prog 25 #[.slice A len cc, .int .i64 n.b, envA v o res t] W fun e' w' => e' = .returned (gtV b) ∧ Below W.heap.size W w') :
    Calls Try.prog 42 #[.slice A len cc, exA n, envA v o res t] w fun e' w' => e' = .returned (gtV (⟨0, T, b.ub, b.at_⟩)) ∧ Below w.heap.size w w' := by
  have MC : ∀ W, Calls Try.prog 32 #[.int .i64 n.k, .int .i64 a.t, .int .i64 b.t] W fun e w' => e = .returned (.int .i64 T) ∧ W = w' := fun W => by have := r_mixed_c n.k a.t b.t W (by omega); rwa [hT] at this
  have u0 : (b.ub == 0) = false := by rw [beq_eq_false_iff_ne]; exact hv
  have u1 : (b.ub != 0) = true := by rw [bne, u0]; rfl
  have HU := Lib.hid hu
  clear hu hv hT
  obtain ⟨kk, hkk⟩ : ∃ k, n.k = k := ⟨_, rfl⟩
  rw [hkk] at hk hk' MC
  have HK := Lib.hid hkk
  clear hkk
  have k6 : (kk == 6) = false := by rw [beq_eq_false_iff_ne]; omega
  have k7 : (kk == 7) = false := by rw [beq_eq_false_iff_ne]; omega
  have k18 : (kk == 18) = false := by rw [beq_eq_false_iff_ne]; omega
  have k18' : (kk != 18) = true := by rw [bne, k18]; rfl
  have q6 : decide (kk < 6) = false := decide_eq_false (by omega)
  have q18 : decide (18 < kk) = false := decide_eq_false (by omega)
  unfold exA envA
  have IH2 : ∀ W, Below w.heap.size w W → Calls Try.prog 25 #[.slice A len cc, .int .i64 n.a, .agg #[.pointer v.mp, .slice v.ba v.bl v.bc, .pointer o.mp, .slice o.ba o.bl o.bc, .int .i64 res, .int .i64 t]] W fun e' w' => e' = .returned (.agg #[.int .i64 a.v, .int .i64 a.t, .int .i64 a.ub, .int .i64 a.at_]) ∧ Below W.heap.size W w' := IH
  clear IH
  have IB2 : ∀ W, Below w.heap.size w W → Calls Try.prog 25 #[.slice A len cc, .int .i64 n.b, .agg #[.pointer v.mp, .slice v.ba v.bl v.bc, .pointer o.mp, .slice o.ba o.bl o.bc, .int .i64 res, .int .i64 t]] W fun e' w' => e' = .returned (.agg #[.int .i64 b.v, .int .i64 b.t, .int .i64 b.ub, .int .i64 b.at_]) ∧ Below W.heap.size W w' := IB
  clear IB
  go_enter Try.func42, Try.ntmps42
  go_upto_region 1 with fail
  refine at_world (fun W => NmI w W n v o res t) ⟨(by repeat' (first | exact Below.refl _ _ | (refine Below.alloc ?_ ?_ _) | (refine Below.setCell ?_ ?_ _) | (refine Below.drew ?_) | (refine below_next ?_ ?_ (by assumption)) | omega | (simp; done) | (simp; omega))), ⟨by first | (simp; done) | (simp; omega), by simp [go_sem], by simp [go_sem], by simp [go_sem], by simp [go_sem], by simp [go_sem], by simp [go_sem], by simp [go_sem]⟩, ⟨by first | (simp; done) | (simp; omega), by simp [go_sem], by simp [go_sem], by simp [go_sem], by simp [go_sem], by simp [go_sem], by simp [go_sem]⟩, ⟨by first | (simp; done) | (simp; omega), by simp [go_sem], by simp [go_sem], by simp [go_sem], by simp [go_sem], by simp [go_sem], by simp [go_sem], by simp [go_sem], by simp [go_sem]⟩⟩ ?_
  intro W0 N0
  have N := Lib.hid N0
  have n0 := (N0.b7).c0; have n1 : _ = _ := (N0.b7).box1; have n2 := (N0.b7).box2; have n3 := (N0.b7).box3; have n4 := (N0.b7).box4; have n5 := (N0.b7).box5; have n6 := (N0.b7).box6
  have e0 := (N0.b6).c0; have e1 := (N0.b6).c1; have e2 := (N0.b6).c2; have e3 := (N0.b6).c3; have e4 := (N0.b6).c4; have e5 := (N0.b6).c5
  have hsz0 : w.heap.size + 3 ≤ W0.heap.size := by have := N0.b4.lt; omega
  clear N0
  rw [HK.out] at n0
  go_upto_region 4 with (go_at_call 25; refine (IH2 _ N.out.hb).mono ?_; rintro e' w1 ⟨rfl, hb1⟩; have N := Lib.hid (N.out.below hb1); have hs1 := hb1.size; clear hb1 IH2)
  refine at_world (fun W => NmI w W n v o res t ∧ Bx4 W w1.heap.size a ∧ W.heap.size = w1.heap.size + 1) ⟨N.out.below (by repeat' (first | exact Below.refl _ _ | (refine Below.alloc ?_ ?_ _) | (refine Below.setCell ?_ ?_ _) | (refine Below.drew ?_) | (refine below_next ?_ ?_ (by assumption)) | omega | (simp; done) | (simp; omega))), ⟨by first | (simp; done) | (simp; omega), by simp [go_sem], by simp [go_sem], by simp [go_sem], by simp [go_sem], by simp [go_sem], by simp [go_sem], by simp [go_sem], by simp [go_sem]⟩, by simp⟩ ?_
  rintro W2 ⟨N2, A2, hz2⟩
  clear N n0 n1 n2 n3 n4 n5 n6 e0 e1 e2 e3 e4 e5
  have N := Lib.hid N2
  have n0 := (N2.b7).c0; have n1 : _ = _ := (N2.b7).box1; have n2 := (N2.b7).box2; have n3 := (N2.b7).box3; have n4 := (N2.b7).box4; have n5 := (N2.b7).box5; have n6 := (N2.b7).box6
  rw [HK.out] at n0
  go_upto_region 6 with fail
  refine at_world (fun W => OnI w W n v o res t w1.heap.size (w1.heap.size + 1) a ⟨0, 5, 0, 0⟩) ⟨below_next N2.hb N2.hb.size (by repeat' (first | exact Below.refl _ _ | (refine Below.alloc ?_ ?_ _) | (refine Below.setCell ?_ ?_ _) | (refine Below.drew ?_) | (refine below_next ?_ ?_ (by assumption)) | omega | (simp; done) | (simp; omega))), N2.b7.below (by repeat' (first | exact Below.refl _ _ | (refine Below.alloc ?_ ?_ _) | (refine Below.setCell ?_ ?_ _) | (refine Below.drew ?_) | (refine below_next ?_ ?_ (by assumption)) | omega | (simp; done) | (simp; omega))), N2.b6.below (by repeat' (first | exact Below.refl _ _ | (refine Below.alloc ?_ ?_ _) | (refine Below.setCell ?_ ?_ _) | (refine Below.drew ?_) | (refine below_next ?_ ?_ (by assumption)) | omega | (simp; done) | (simp; omega))), N2.b4.below (by repeat' (first | exact Below.refl _ _ | (refine Below.alloc ?_ ?_ _) | (refine Below.setCell ?_ ?_ _) | (refine Below.drew ?_) | (refine below_next ?_ ?_ (by assumption)) | omega | (simp; done) | (simp; omega))), A2.below (by repeat' (first | exact Below.refl _ _ | (refine Below.alloc ?_ ?_ _) | (refine Below.setCell ?_ ?_ _) | (refine Below.drew ?_) | (refine below_next ?_ ?_ (by assumption)) | omega | (simp; done) | (simp; omega))), by rw [← hz2]; exact ⟨by first | (simp; done) | (simp; omega), by simp [go_sem], by simp [go_sem], by simp [go_sem], by simp [go_sem], by simp [go_sem], by simp [go_sem], by simp [go_sem], by simp [go_sem]⟩, by omega, by omega⟩ ?_
  intro W3 O3
  obtain ⟨D3, hD3⟩ : ∃ x, w1.heap.size = x := ⟨_, rfl⟩
  simp only [hz2, hD3] at O3 ⊢
  clear hD3 hz2 N2 A2 N hsz0 hs1 n0 n1 n2 n3 n4 n5 n6
  have O := Lib.hid O3
  have n0 := (O3.b7).c0; have n1 : _ = _ := (O3.b7).box1; have n2 := (O3.b7).box2; have n3 := (O3.b7).box3; have n4 := (O3.b7).box4; have n5 := (O3.b7).box5; have n6 := (O3.b7).box6; have e0 := (O3.b6).c0; have e1 := (O3.b6).c1; have e2 := (O3.b6).c2; have e3 := (O3.b6).c3; have e4 := (O3.b6).c4; have e5 := (O3.b6).c5; have r0 := (O3.r4).c0; have r1 := (O3.r4).c1; have r2 := (O3.r4).c2; have r3 := (O3.r4).c3; have rf0 := (O3.r4).f0; have rf1 := (O3.r4).f1; have rf2 := (O3.r4).f2; have rf3 := (O3.r4).f3; have x0 := (O3.a4).c0; have x1 := (O3.a4).c1; have x2 := (O3.a4).c2; have x3 := (O3.a4).c3; have xf0 := (O3.a4).f0; have xf1 := (O3.a4).f1; have xf2 := (O3.a4).f2; have xf3 := (O3.a4).f3; have y0 := (O3.d4).c0; have y1 := (O3.d4).c1; have y2 := (O3.d4).c2; have y3 := (O3.d4).c3; have yf0 := (O3.d4).f0; have yf1 := (O3.d4).f1; have yf2 := (O3.d4).f2; have yf3 := (O3.d4).f3
  have h3 := O3.h3
  clear O3
  rw [HK.out] at n0
  go_upto_region 8 with (go_at_call 25; refine (IB2 _ O.out.hb).mono ?_; rintro e' w5 ⟨rfl, hb5⟩; have O5 := O.out.below hb5; have O := Lib.hid O5; have z0 := (O5.d4).c0; have z1 := (O5.d4).c1; have z2 := (O5.d4).c2; have z3 := (O5.d4).c3; have zf0 := (O5.d4).f0; have zf1 := (O5.d4).f1; have zf2 := (O5.d4).f2; have zf3 := (O5.d4).f3; clear hb5 IB2 O5)
  refine at_world (fun W => OnI w W n v o res t D3 (D3 + 1) a b) (O.out.set b) ?_
  intro W6 O6
  clear n0 n1 n2 n3 n4 n5 n6 e0 e1 e2 e3 e4 e5 r0 r1 r2 r3 rf0 rf1 rf2 rf3 x0 x1 x2 x3 xf0 xf1 xf2 xf3 y0 y1 y2 y3 yf0 yf1 yf2 yf3 O z0 zf0 z1 zf1 z2 zf2 z3 zf3
  have O := Lib.hid O6
  have n0 := (O6.b7).c0; have n1 : _ = _ := (O6.b7).box1; have n2 := (O6.b7).box2; have n3 := (O6.b7).box3; have n4 := (O6.b7).box4; have n5 := (O6.b7).box5; have n6 := (O6.b7).box6; have e0 := (O6.b6).c0; have e1 := (O6.b6).c1; have e2 := (O6.b6).c2; have e3 := (O6.b6).c3; have e4 := (O6.b6).c4; have e5 := (O6.b6).c5; have r0 := (O6.r4).c0; have r1 := (O6.r4).c1; have r2 := (O6.r4).c2; have r3 := (O6.r4).c3; have rf0 := (O6.r4).f0; have rf1 := (O6.r4).f1; have rf2 := (O6.r4).f2; have rf3 := (O6.r4).f3; have x0 := (O6.a4).c0; have x1 := (O6.a4).c1; have x2 := (O6.a4).c2; have x3 := (O6.a4).c3; have xf0 := (O6.a4).f0; have xf1 := (O6.a4).f1; have xf2 := (O6.a4).f2; have xf3 := (O6.a4).f3; have y0 := (O6.d4).c0; have y1 := (O6.d4).c1; have y2 := (O6.d4).c2; have y3 := (O6.d4).c3; have yf0 := (O6.d4).f0; have yf1 := (O6.d4).f1; have yf2 := (O6.d4).f2; have yf3 := (O6.d4).f3
  clear O6
  rw [HK.out] at n0
  rw [HU.out] at x2
  go_wp2_with (go_at_call 32; refine (MC _).mono ?_; rintro e' w9 ⟨rfl, rfl⟩; clear MC)
  exact bodyPost_ret (v := gtV ⟨0, T, b.ub, b.at_⟩) (by simp [results, Try.results42, go_sem, r0, r1, r2, r3, rf0, rf1, rf2, rf3, gtV]) rfl ⟨rfl, set4 O.out.hb (by omega) _ _ _ _⟩
set_option maxRecDepth 100000 in
set_option maxHeartbeats 6400000 in
theorem rn_bin3 (n : Ex) (v o : NV) (res t : Int) (A : Option Addr) (len cc : Nat) (a b : Gt) (w : World) (hk : 8 ≤ n.k) (hk' : n.k ≤ 17) (h16 : n.k ≠ 16) (h17 : n.k ≠ 17) (hu : a.ub = 0) (hv : b.ub = 0) (T x y rv ru : Int) (hT : mixT n.k a.t b.t = T) (hx : wrapT T a.v = x) (hy : wrapT T b.v = y) (hr : doI n.k T x y = (rv, ru)) (q : Gt) (hq : q = if ru = 0 then ⟨rv, T, 0, 0⟩ else ⟨0, T, ru, n.at_⟩)  (IH : ∀ W, Below w.heap.size w W → Calls Try.prog 25 #[.slice A len cc, .int .i64 n.a, envA v o res t] W fun e' w' => e' = .returned (gtV a) ∧ Below W.heap.size W w')
    (IB : ∀ W, Below w.heap.size w W → Calls Try.prog 25 #[.slice A len cc, .int .i64 n.b, envA v o res t] W fun e' w' => e' = .returned (gtV b) ∧ Below W.heap.size W w') :
    Calls Try.prog 42 #[.slice A len cc, exA n, envA v o res t] w fun e' w' => e' = .returned (gtV (q)) ∧ Below w.heap.size w w' := by
  have HPP : (ru = 0 ∧ Hid (q = ⟨rv, T, 0, 0⟩)) ∨ ((ru == 0) = false ∧ Hid (q = ⟨0, T, ru, n.at_⟩)) := by
    by_cases hu2 : ru = 0
    · exact .inl ⟨hu2, Lib.hid (by rw [hq, if_pos hu2])⟩
    · exact .inr ⟨by rw [beq_eq_false_iff_ne]; exact hu2, Lib.hid (by rw [hq, if_neg hu2])⟩
  have LX : ∀ W, Calls Try.prog 34 #[.int .i64 T, .int .i64 a.v] W fun e w' => e = .returned (.int .i64 x) ∧ W = w' := fun W => by have := r_wrap_c T a.v W; rwa [hx] at this
  have MC : ∀ W, Calls Try.prog 32 #[.int .i64 n.k, .int .i64 a.t, .int .i64 b.t] W fun e w' => e = .returned (.int .i64 T) ∧ W = w' := fun W => by have := r_mixed_c n.k a.t b.t W (by omega); rwa [hT] at this
  have LY : ∀ W, Calls Try.prog 34 #[.int .i64 T, .int .i64 b.v] W fun e w' => e = .returned (.int .i64 y) ∧ W = w' := fun W => by have := r_wrap_c T b.v W; rwa [hy] at this
  have LD : ∀ W, Calls Try.prog 61 #[.int .i64 n.k, .int .i64 T, .int .i64 x, .int .i64 y] W fun e w' => e = .returned (.tuple #[.int .i64 rv, .int .i64 ru]) ∧ W = w' := fun W => by have := r_do_c n.k T x y W; rwa [hr] at this
  have HU := Lib.hid hu
  have HV := Lib.hid hv
  clear hu hv hT hx hy hr hq
  obtain ⟨kk, hkk⟩ : ∃ k, n.k = k := ⟨_, rfl⟩
  rw [hkk] at hk hk' MC LD h16 h17
  have HK := Lib.hid hkk
  clear hkk
  have k6 : (kk == 6) = false := by rw [beq_eq_false_iff_ne]; omega
  have k7 : (kk == 7) = false := by rw [beq_eq_false_iff_ne]; omega
  have k18 : (kk == 18) = false := by rw [beq_eq_false_iff_ne]; omega
  have k18' : (kk != 18) = true := by rw [bne, k18]; rfl
  have q6 : decide (kk < 6) = false := decide_eq_false (by omega)
  have q18 : decide (18 < kk) = false := decide_eq_false (by omega)
  have k16 : (kk == 16) = false := by rw [beq_eq_false_iff_ne]; exact h16
  have k17 : (kk == 17) = false := by rw [beq_eq_false_iff_ne]; exact h17
  have k16' : (kk != 16) = true := by rw [bne, k16]; rfl
  have k17' : (kk != 17) = true := by rw [bne, k17]; rfl
  unfold exA envA
  have IH2 : ∀ W, Below w.heap.size w W → Calls Try.prog 25 #[.slice A len cc, .int .i64 n.a, .agg #[.pointer v.mp, .slice v.ba v.bl v.bc, .pointer o.mp, .slice o.ba o.bl o.bc, .int .i64 res, .int .i64 t]] W fun e' w' => e' = .returned (.agg #[.int .i64 a.v, .int .i64 a.t, .int .i64 a.ub, .int .i64 a.at_]) ∧ Below W.heap.size W w' := IH
  clear IH
  have IB2 : ∀ W, Below w.heap.size w W → Calls Try.prog 25 #[.slice A len cc, .int .i64 n.b, .agg #[.pointer v.mp, .slice v.ba v.bl v.bc, .pointer o.mp, .slice o.ba o.bl o.bc, .int .i64 res, .int .i64 t]] W fun e' w' => e' = .returned (.agg #[.int .i64 b.v, .int .i64 b.t, .int .i64 b.ub, .int .i64 b.at_]) ∧ Below W.heap.size W w' := IB
  clear IB
  go_enter Try.func42, Try.ntmps42
  go_upto_region 1 with fail
  refine at_world (fun W => NmI w W n v o res t) ⟨(by repeat' (first | exact Below.refl _ _ | (refine Below.alloc ?_ ?_ _) | (refine Below.setCell ?_ ?_ _) | (refine Below.drew ?_) | (refine below_next ?_ ?_ (by assumption)) | omega | (simp; done) | (simp; omega))), ⟨by first | (simp; done) | (simp; omega), by simp [go_sem], by simp [go_sem], by simp [go_sem], by simp [go_sem], by simp [go_sem], by simp [go_sem], by simp [go_sem]⟩, ⟨by first | (simp; done) | (simp; omega), by simp [go_sem], by simp [go_sem], by simp [go_sem], by simp [go_sem], by simp [go_sem], by simp [go_sem]⟩, ⟨by first | (simp; done) | (simp; omega), by simp [go_sem], by simp [go_sem], by simp [go_sem], by simp [go_sem], by simp [go_sem], by simp [go_sem], by simp [go_sem], by simp [go_sem]⟩⟩ ?_
  intro W0 N0
  have N := Lib.hid N0
  have n0 := (N0.b7).c0; have n1 : _ = _ := (N0.b7).box1; have n2 := (N0.b7).box2; have n3 := (N0.b7).box3; have n4 := (N0.b7).box4; have n5 := (N0.b7).box5; have n6 := (N0.b7).box6
  have e0 := (N0.b6).c0; have e1 := (N0.b6).c1; have e2 := (N0.b6).c2; have e3 := (N0.b6).c3; have e4 := (N0.b6).c4; have e5 := (N0.b6).c5
  have hsz0 : w.heap.size + 3 ≤ W0.heap.size := by have := N0.b4.lt; omega
  clear N0
  rw [HK.out] at n0
  go_upto_region 4 with (go_at_call 25; refine (IH2 _ N.out.hb).mono ?_; rintro e' w1 ⟨rfl, hb1⟩; have N := Lib.hid (N.out.below hb1); have hs1 := hb1.size; clear hb1 IH2)
  refine at_world (fun W => NmI w W n v o res t ∧ Bx4 W w1.heap.size a ∧ W.heap.size = w1.heap.size + 1) ⟨N.out.below (by repeat' (first | exact Below.refl _ _ | (refine Below.alloc ?_ ?_ _) | (refine Below.setCell ?_ ?_ _) | (refine Below.drew ?_) | (refine below_next ?_ ?_ (by assumption)) | omega | (simp; done) | (simp; omega))), ⟨by first | (simp; done) | (simp; omega), by simp [go_sem], by simp [go_sem], by simp [go_sem], by simp [go_sem], by simp [go_sem], by simp [go_sem], by simp [go_sem], by simp [go_sem]⟩, by simp⟩ ?_
  rintro W2 ⟨N2, A2, hz2⟩
  clear N n0 n1 n2 n3 n4 n5 n6 e0 e1 e2 e3 e4 e5
  have N := Lib.hid N2
  have n0 := (N2.b7).c0; have n1 : _ = _ := (N2.b7).box1; have n2 := (N2.b7).box2; have n3 := (N2.b7).box3; have n4 := (N2.b7).box4; have n5 := (N2.b7).box5; have n6 := (N2.b7).box6
  rw [HK.out] at n0
  go_upto_region 6 with fail
  refine at_world (fun W => OnI w W n v o res t w1.heap.size (w1.heap.size + 1) a ⟨0, 5, 0, 0⟩) ⟨below_next N2.hb N2.hb.size (by repeat' (first | exact Below.refl _ _ | (refine Below.alloc ?_ ?_ _) | (refine Below.setCell ?_ ?_ _) | (refine Below.drew ?_) | (refine below_next ?_ ?_ (by assumption)) | omega | (simp; done) | (simp; omega))), N2.b7.below (by repeat' (first | exact Below.refl _ _ | (refine Below.alloc ?_ ?_ _) | (refine Below.setCell ?_ ?_ _) | (refine Below.drew ?_) | (refine below_next ?_ ?_ (by assumption)) | omega | (simp; done) | (simp; omega))), N2.b6.below (by repeat' (first | exact Below.refl _ _ | (refine Below.alloc ?_ ?_ _) | (refine Below.setCell ?_ ?_ _) | (refine Below.drew ?_) | (refine below_next ?_ ?_ (by assumption)) | omega | (simp; done) | (simp; omega))), N2.b4.below (by repeat' (first | exact Below.refl _ _ | (refine Below.alloc ?_ ?_ _) | (refine Below.setCell ?_ ?_ _) | (refine Below.drew ?_) | (refine below_next ?_ ?_ (by assumption)) | omega | (simp; done) | (simp; omega))), A2.below (by repeat' (first | exact Below.refl _ _ | (refine Below.alloc ?_ ?_ _) | (refine Below.setCell ?_ ?_ _) | (refine Below.drew ?_) | (refine below_next ?_ ?_ (by assumption)) | omega | (simp; done) | (simp; omega))), by rw [← hz2]; exact ⟨by first | (simp; done) | (simp; omega), by simp [go_sem], by simp [go_sem], by simp [go_sem], by simp [go_sem], by simp [go_sem], by simp [go_sem], by simp [go_sem], by simp [go_sem]⟩, by omega, by omega⟩ ?_
  intro W3 O3
  obtain ⟨D3, hD3⟩ : ∃ x, w1.heap.size = x := ⟨_, rfl⟩
  simp only [hz2, hD3] at O3 ⊢
  clear hD3 hz2 N2 A2 N hsz0 hs1 n0 n1 n2 n3 n4 n5 n6
  have O := Lib.hid O3
  have n0 := (O3.b7).c0; have n1 : _ = _ := (O3.b7).box1; have n2 := (O3.b7).box2; have n3 := (O3.b7).box3; have n4 := (O3.b7).box4; have n5 := (O3.b7).box5; have n6 := (O3.b7).box6; have e0 := (O3.b6).c0; have e1 := (O3.b6).c1; have e2 := (O3.b6).c2; have e3 := (O3.b6).c3; have e4 := (O3.b6).c4; have e5 := (O3.b6).c5; have r0 := (O3.r4).c0; have r1 := (O3.r4).c1; have r2 := (O3.r4).c2; have r3 := (O3.r4).c3; have rf0 := (O3.r4).f0; have rf1 := (O3.r4).f1; have rf2 := (O3.r4).f2; have rf3 := (O3.r4).f3; have x0 := (O3.a4).c0; have x1 := (O3.a4).c1; have x2 := (O3.a4).c2; have x3 := (O3.a4).c3; have xf0 := (O3.a4).f0; have xf1 := (O3.a4).f1; have xf2 := (O3.a4).f2; have xf3 := (O3.a4).f3; have y0 := (O3.d4).c0; have y1 := (O3.d4).c1; have y2 := (O3.d4).c2; have y3 := (O3.d4).c3; have yf0 := (O3.d4).f0; have yf1 := (O3.d4).f1; have yf2 := (O3.d4).f2; have yf3 := (O3.d4).f3
  have h3 := O3.h3
  clear O3
  rw [HK.out] at n0
  go_upto_region 8 with (go_at_call 25; refine (IB2 _ O.out.hb).mono ?_; rintro e' w5 ⟨rfl, hb5⟩; have O5 := O.out.below hb5; have O := Lib.hid O5; have z0 := (O5.d4).c0; have z1 := (O5.d4).c1; have z2 := (O5.d4).c2; have z3 := (O5.d4).c3; have zf0 := (O5.d4).f0; have zf1 := (O5.d4).f1; have zf2 := (O5.d4).f2; have zf3 := (O5.d4).f3; clear hb5 IB2 O5)
  refine at_world (fun W => OnI w W n v o res t D3 (D3 + 1) a b) (O.out.set b) ?_
  intro W9 O6
  clear n0 n1 n2 n3 n4 n5 n6 e0 e1 e2 e3 e4 e5 r0 r1 r2 r3 rf0 rf1 rf2 rf3 x0 x1 x2 x3 xf0 xf1 xf2 xf3 y0 y1 y2 y3 yf0 yf1 yf2 yf3 O z0 zf0 z1 zf1 z2 zf2 z3 zf3
  have O := Lib.hid O6
  have n0 := (O6.b7).c0; have n1 : _ = _ := (O6.b7).box1; have n2 := (O6.b7).box2; have n3 := (O6.b7).box3; have n4 := (O6.b7).box4; have n5 := (O6.b7).box5; have n6 := (O6.b7).box6; have e0 := (O6.b6).c0; have e1 := (O6.b6).c1; have e2 := (O6.b6).c2; have e3 := (O6.b6).c3; have e4 := (O6.b6).c4; have e5 := (O6.b6).c5; have r0 := (O6.r4).c0; have r1 := (O6.r4).c1; have r2 := (O6.r4).c2; have r3 := (O6.r4).c3; have rf0 := (O6.r4).f0; have rf1 := (O6.r4).f1; have rf2 := (O6.r4).f2; have rf3 := (O6.r4).f3; have x0 := (O6.a4).c0; have x1 := (O6.a4).c1; have x2 := (O6.a4).c2; have x3 := (O6.a4).c3; have xf0 := (O6.a4).f0; have xf1 := (O6.a4).f1; have xf2 := (O6.a4).f2; have xf3 := (O6.a4).f3; have y0 := (O6.d4).c0; have y1 := (O6.d4).c1; have y2 := (O6.d4).c2; have y3 := (O6.d4).c3; have yf0 := (O6.d4).f0; have yf1 := (O6.d4).f1; have yf2 := (O6.d4).f2; have yf3 := (O6.d4).f3
  clear O6
  rw [HK.out] at n0
  rw [HU.out] at x2
  rw [HV.out] at y2
  go_upto_region 22 with (first | (go_at_call 32; refine (MC _).mono ?_; rintro e' w9 ⟨rfl, rfl⟩; clear MC) | (go_at_call 34; refine (LY _).mono ?_; rintro e' w9 ⟨rfl, rfl⟩; clear LY))
  have d0 := fun (x' : WIn (Below W9.heap.size W9)) => cell_later x'.h n0
  have d1 := fun (x' : WIn (Below W9.heap.size W9)) => cell_later x'.h x0
  refine region_in (Below W9.heap.size W9) (by kernel_rfl) (by kernel_rfl) (Below.refl _ _).drew (fun inst => ?_)
  iterate 14 (go_big_quiet_step (first | (go_at_call 34; exact call_same _ (LX _)) | (go_at_call 61; exact call_same _ (LD _))))
  refine wpQuiet_nil ?_
  intro wd hbd
  have O := Lib.hid (O.out.below hbd)
  clear hbd d0 d1 LX LD n0 n1 n2 n3 n4 n5 n6 e0 e1 e2 e3 e4 e5 r0 r1 r2 r3 rf0 rf1 rf2 rf3 x0 x1 x2 x3 xf0 xf1 xf2 xf3 y0 y1 y2 y3 yf0 yf1 yf2 yf3
  have n0 := (O.out.b7).c0; have n1 : _ = _ := (O.out.b7).box1; have n2 := (O.out.b7).box2; have n3 := (O.out.b7).box3; have n4 := (O.out.b7).box4; have n5 := (O.out.b7).box5; have n6 := (O.out.b7).box6; have e0 := (O.out.b6).c0; have e1 := (O.out.b6).c1; have e2 := (O.out.b6).c2; have e3 := (O.out.b6).c3; have e4 := (O.out.b6).c4; have e5 := (O.out.b6).c5; have r0 := (O.out.r4).c0; have r1 := (O.out.r4).c1; have r2 := (O.out.r4).c2; have r3 := (O.out.r4).c3; have rf0 := (O.out.r4).f0; have rf1 := (O.out.r4).f1; have rf2 := (O.out.r4).f2; have rf3 := (O.out.r4).f3; have x0 := (O.out.a4).c0; have x1 := (O.out.a4).c1; have x2 := (O.out.a4).c2; have x3 := (O.out.a4).c3; have xf0 := (O.out.a4).f0; have xf1 := (O.out.a4).f1; have xf2 := (O.out.a4).f2; have xf3 := (O.out.a4).f3; have y0 := (O.out.d4).c0; have y1 := (O.out.d4).c1; have y2 := (O.out.d4).c2; have y3 := (O.out.d4).c3; have yf0 := (O.out.d4).f0; have yf1 := (O.out.d4).f1; have yf2 := (O.out.d4).f2; have yf3 := (O.out.d4).f3
  rcases HPP with ⟨rfl, HG⟩ | ⟨g3, HG⟩
  · have HE := HG.out
    subst HE
    go_wp2_with fail
    exact bodyPost_ret (v := gtV ⟨rv, T, 0, 0⟩) (by simp [results, Try.results42, go_sem, r0, r1, r2, r3, rf0, rf1, rf2, rf3, gtV]) rfl ⟨rfl, set4 O.out.hb (by omega) _ _ _ _⟩
  · have HE := HG.out
    subst HE
    have g3' : (ru != 0) = true := by rw [bne, g3]; rfl
    go_wp2_with fail
    exact bodyPost_ret (v := gtV ⟨0, T, ru, n.at_⟩) (by simp [results, Try.results42, go_sem, r0, r1, r2, r3, rf0, rf1, rf2, rf3, gtV]) rfl ⟨rfl, set4 O.out.hb (by omega) _ _ _ _⟩
set_option maxRecDepth 100000 in
set_option maxHeartbeats 6400000 in
theorem rn_bin16 (n : Ex) (v o : NV) (res t : Int) (A : Option Addr) (len cc : Nat) (a b : Gt) (w : World) (hkk : n.k = 16) (hu : a.ub = 0) (hv : b.ub = 0) (T x y rv ru : Int) (hT : mixT n.k a.t b.t = T) (hx : wrapT T a.v = x) (hy : b.v = y) (hr : doI n.k T x y = (rv, ru)) (q : Gt) (hq : q = if ru = 0 then ⟨rv, T, 0, 0⟩ else ⟨0, T, ru, n.at_⟩)  (IH : ∀ W, Below w.heap.size w W → Calls Try.prog 25 #[.slice A len cc, .int .i64 n.a, envA v o res t] W fun e' w' => e' = .returned (gtV a) ∧ Below W.heap.size W w')
    (IB : ∀ W, Below w.heap.size w W → Calls Try.prog 25 #[.slice A len cc, .int .i64 n.b, envA v o res t] W fun e' w' => e' = .returned (gtV b) ∧ Below W.heap.size W w') :
    Calls Try.prog 42 #[.slice A len cc, exA n, envA v o res t] w fun e' w' => e' = .returned (gtV (q)) ∧ Below w.heap.size w w' := by
  have HPP : (ru = 0 ∧ Hid (q = ⟨rv, T, 0, 0⟩)) ∨ ((ru == 0) = false ∧ Hid (q = ⟨0, T, ru, n.at_⟩)) := by
    by_cases hu2 : ru = 0
    · exact .inl ⟨hu2, Lib.hid (by rw [hq, if_pos hu2])⟩
    · exact .inr ⟨by rw [beq_eq_false_iff_ne]; exact hu2, Lib.hid (by rw [hq, if_neg hu2])⟩
  have LX : ∀ W, Calls Try.prog 34 #[.int .i64 T, .int .i64 a.v] W fun e w' => e = .returned (.int .i64 x) ∧ W = w' := fun W => by have := r_wrap_c T a.v W; rwa [hx] at this
  have MC : ∀ W, Calls Try.prog 32 #[.int .i64 n.k, .int .i64 a.t, .int .i64 b.t] W fun e w' => e = .returned (.int .i64 T) ∧ W = w' := fun W => by have := r_mixed_c n.k a.t b.t W (by omega); rwa [hT] at this
  have LD : ∀ W, Calls Try.prog 61 #[.int .i64 n.k, .int .i64 T, .int .i64 x, .int .i64 y] W fun e w' => e = .returned (.tuple #[.int .i64 rv, .int .i64 ru]) ∧ W = w' := fun W => by have := r_do_c n.k T x y W; rwa [hr] at this
  have HU := Lib.hid hu
  have HV := Lib.hid hv
  rw [hkk] at MC LD
  have HK : Hid (n.k = 16) := Lib.hid hkk
  clear hu hv hT hx hr hq hkk
  subst hy
  unfold exA envA
  have IH2 : ∀ W, Below w.heap.size w W → Calls Try.prog 25 #[.slice A len cc, .int .i64 n.a, .agg #[.pointer v.mp, .slice v.ba v.bl v.bc, .pointer o.mp, .slice o.ba o.bl o.bc, .int .i64 res, .int .i64 t]] W fun e' w' => e' = .returned (.agg #[.int .i64 a.v, .int .i64 a.t, .int .i64 a.ub, .int .i64 a.at_]) ∧ Below W.heap.size W w' := IH
  clear IH
  have IB2 : ∀ W, Below w.heap.size w W → Calls Try.prog 25 #[.slice A len cc, .int .i64 n.b, .agg #[.pointer v.mp, .slice v.ba v.bl v.bc, .pointer o.mp, .slice o.ba o.bl o.bc, .int .i64 res, .int .i64 t]] W fun e' w' => e' = .returned (.agg #[.int .i64 b.v, .int .i64 b.t, .int .i64 b.ub, .int .i64 b.at_]) ∧ Below W.heap.size W w' := IB
  clear IB
  go_enter Try.func42, Try.ntmps42
  go_upto_region 1 with fail
  refine at_world (fun W => NmI w W n v o res t) ⟨(by repeat' (first | exact Below.refl _ _ | (refine Below.alloc ?_ ?_ _) | (refine Below.setCell ?_ ?_ _) | (refine Below.drew ?_) | (refine below_next ?_ ?_ (by assumption)) | omega | (simp; done) | (simp; omega))), ⟨by first | (simp; done) | (simp; omega), by simp [go_sem], by simp [go_sem], by simp [go_sem], by simp [go_sem], by simp [go_sem], by simp [go_sem], by simp [go_sem]⟩, ⟨by first | (simp; done) | (simp; omega), by simp [go_sem], by simp [go_sem], by simp [go_sem], by simp [go_sem], by simp [go_sem], by simp [go_sem]⟩, ⟨by first | (simp; done) | (simp; omega), by simp [go_sem], by simp [go_sem], by simp [go_sem], by simp [go_sem], by simp [go_sem], by simp [go_sem], by simp [go_sem], by simp [go_sem]⟩⟩ ?_
  intro W0 N0
  have N := Lib.hid N0
  have n0 := (N0.b7).c0; have n1 : _ = _ := (N0.b7).box1; have n2 := (N0.b7).box2; have n3 := (N0.b7).box3; have n4 := (N0.b7).box4; have n5 := (N0.b7).box5; have n6 := (N0.b7).box6
  have e0 := (N0.b6).c0; have e1 := (N0.b6).c1; have e2 := (N0.b6).c2; have e3 := (N0.b6).c3; have e4 := (N0.b6).c4; have e5 := (N0.b6).c5
  have hsz0 : w.heap.size + 3 ≤ W0.heap.size := by have := N0.b4.lt; omega
  clear N0
  rw [HK.out] at n0
  go_upto_region 4 with (go_at_call 25; refine (IH2 _ N.out.hb).mono ?_; rintro e' w1 ⟨rfl, hb1⟩; have N := Lib.hid (N.out.below hb1); have hs1 := hb1.size; clear hb1 IH2)
  refine at_world (fun W => NmI w W n v o res t ∧ Bx4 W w1.heap.size a ∧ W.heap.size = w1.heap.size + 1) ⟨N.out.below (by repeat' (first | exact Below.refl _ _ | (refine Below.alloc ?_ ?_ _) | (refine Below.setCell ?_ ?_ _) | (refine Below.drew ?_) | (refine below_next ?_ ?_ (by assumption)) | omega | (simp; done) | (simp; omega))), ⟨by first | (simp; done) | (simp; omega), by simp [go_sem], by simp [go_sem], by simp [go_sem], by simp [go_sem], by simp [go_sem], by simp [go_sem], by simp [go_sem], by simp [go_sem]⟩, by simp⟩ ?_
  rintro W2 ⟨N2, A2, hz2⟩
  clear N n0 n1 n2 n3 n4 n5 n6 e0 e1 e2 e3 e4 e5
  have N := Lib.hid N2
  have n0 := (N2.b7).c0; have n1 : _ = _ := (N2.b7).box1; have n2 := (N2.b7).box2; have n3 := (N2.b7).box3; have n4 := (N2.b7).box4; have n5 := (N2.b7).box5; have n6 := (N2.b7).box6
  rw [HK.out] at n0
  go_upto_region 6 with fail
  refine at_world (fun W => OnI w W n v o res t w1.heap.size (w1.heap.size + 1) a ⟨0, 5, 0, 0⟩) ⟨below_next N2.hb N2.hb.size (by repeat' (first | exact Below.refl _ _ | (refine Below.alloc ?_ ?_ _) | (refine Below.setCell ?_ ?_ _) | (refine Below.drew ?_) | (refine below_next ?_ ?_ (by assumption)) | omega | (simp; done) | (simp; omega))), N2.b7.below (by repeat' (first | exact Below.refl _ _ | (refine Below.alloc ?_ ?_ _) | (refine Below.setCell ?_ ?_ _) | (refine Below.drew ?_) | (refine below_next ?_ ?_ (by assumption)) | omega | (simp; done) | (simp; omega))), N2.b6.below (by repeat' (first | exact Below.refl _ _ | (refine Below.alloc ?_ ?_ _) | (refine Below.setCell ?_ ?_ _) | (refine Below.drew ?_) | (refine below_next ?_ ?_ (by assumption)) | omega | (simp; done) | (simp; omega))), N2.b4.below (by repeat' (first | exact Below.refl _ _ | (refine Below.alloc ?_ ?_ _) | (refine Below.setCell ?_ ?_ _) | (refine Below.drew ?_) | (refine below_next ?_ ?_ (by assumption)) | omega | (simp; done) | (simp; omega))), A2.below (by repeat' (first | exact Below.refl _ _ | (refine Below.alloc ?_ ?_ _) | (refine Below.setCell ?_ ?_ _) | (refine Below.drew ?_) | (refine below_next ?_ ?_ (by assumption)) | omega | (simp; done) | (simp; omega))), by rw [← hz2]; exact ⟨by first | (simp; done) | (simp; omega), by simp [go_sem], by simp [go_sem], by simp [go_sem], by simp [go_sem], by simp [go_sem], by simp [go_sem], by simp [go_sem], by simp [go_sem]⟩, by omega, by omega⟩ ?_
  intro W3 O3
  obtain ⟨D3, hD3⟩ : ∃ x, w1.heap.size = x := ⟨_, rfl⟩
  simp only [hz2, hD3] at O3 ⊢
  clear hD3 hz2 N2 A2 N hsz0 hs1 n0 n1 n2 n3 n4 n5 n6
  have O := Lib.hid O3
  have n0 := (O3.b7).c0; have n1 : _ = _ := (O3.b7).box1; have n2 := (O3.b7).box2; have n3 := (O3.b7).box3; have n4 := (O3.b7).box4; have n5 := (O3.b7).box5; have n6 := (O3.b7).box6; have e0 := (O3.b6).c0; have e1 := (O3.b6).c1; have e2 := (O3.b6).c2; have e3 := (O3.b6).c3; have e4 := (O3.b6).c4; have e5 := (O3.b6).c5; have r0 := (O3.r4).c0; have r1 := (O3.r4).c1; have r2 := (O3.r4).c2; have r3 := (O3.r4).c3; have rf0 := (O3.r4).f0; have rf1 := (O3.r4).f1; have rf2 := (O3.r4).f2; have rf3 := (O3.r4).f3; have x0 := (O3.a4).c0; have x1 := (O3.a4).c1; have x2 := (O3.a4).c2; have x3 := (O3.a4).c3; have xf0 := (O3.a4).f0; have xf1 := (O3.a4).f1; have xf2 := (O3.a4).f2; have xf3 := (O3.a4).f3; have y0 := (O3.d4).c0; have y1 := (O3.d4).c1; have y2 := (O3.d4).c2; have y3 := (O3.d4).c3; have yf0 := (O3.d4).f0; have yf1 := (O3.d4).f1; have yf2 := (O3.d4).f2; have yf3 := (O3.d4).f3
  have h3 := O3.h3
  clear O3
  rw [HK.out] at n0
  go_upto_region 8 with (go_at_call 25; refine (IB2 _ O.out.hb).mono ?_; rintro e' w5 ⟨rfl, hb5⟩; have O5 := O.out.below hb5; have O := Lib.hid O5; have z0 := (O5.d4).c0; have z1 := (O5.d4).c1; have z2 := (O5.d4).c2; have z3 := (O5.d4).c3; have zf0 := (O5.d4).f0; have zf1 := (O5.d4).f1; have zf2 := (O5.d4).f2; have zf3 := (O5.d4).f3; clear hb5 IB2 O5)
  refine at_world (fun W => OnI w W n v o res t D3 (D3 + 1) a b) (O.out.set b) ?_
  intro W9 O6
  clear n0 n1 n2 n3 n4 n5 n6 e0 e1 e2 e3 e4 e5 r0 r1 r2 r3 rf0 rf1 rf2 rf3 x0 x1 x2 x3 xf0 xf1 xf2 xf3 y0 y1 y2 y3 yf0 yf1 yf2 yf3 O z0 zf0 z1 zf1 z2 zf2 z3 zf3
  have O := Lib.hid O6
  have n0 := (O6.b7).c0; have n1 : _ = _ := (O6.b7).box1; have n2 := (O6.b7).box2; have n3 := (O6.b7).box3; have n4 := (O6.b7).box4; have n5 := (O6.b7).box5; have n6 := (O6.b7).box6; have e0 := (O6.b6).c0; have e1 := (O6.b6).c1; have e2 := (O6.b6).c2; have e3 := (O6.b6).c3; have e4 := (O6.b6).c4; have e5 := (O6.b6).c5; have r0 := (O6.r4).c0; have r1 := (O6.r4).c1; have r2 := (O6.r4).c2; have r3 := (O6.r4).c3; have rf0 := (O6.r4).f0; have rf1 := (O6.r4).f1; have rf2 := (O6.r4).f2; have rf3 := (O6.r4).f3; have x0 := (O6.a4).c0; have x1 := (O6.a4).c1; have x2 := (O6.a4).c2; have x3 := (O6.a4).c3; have xf0 := (O6.a4).f0; have xf1 := (O6.a4).f1; have xf2 := (O6.a4).f2; have xf3 := (O6.a4).f3; have y0 := (O6.d4).c0; have y1 := (O6.d4).c1; have y2 := (O6.d4).c2; have y3 := (O6.d4).c3; have yf0 := (O6.d4).f0; have yf1 := (O6.d4).f1; have yf2 := (O6.d4).f2; have yf3 := (O6.d4).f3
  clear O6
  rw [HK.out] at n0
  rw [HU.out] at x2
  rw [HV.out] at y2
  go_upto_region 22 with (go_at_call 32; refine (MC _).mono ?_; rintro e' w9 ⟨rfl, rfl⟩; clear MC)
  have d0 := fun (x' : WIn (Below W9.heap.size W9)) => cell_later x'.h n0
  have d1 := fun (x' : WIn (Below W9.heap.size W9)) => cell_later x'.h x0
  refine region_in (Below W9.heap.size W9) (by kernel_rfl) (by kernel_rfl) (Below.refl _ _).drew (fun inst => ?_)
  iterate 14 (go_big_quiet_step (first | (go_at_call 34; exact call_same _ (LX _)) | (go_at_call 61; exact call_same _ (LD _))))
  refine wpQuiet_nil ?_
  intro wd hbd
  have O := Lib.hid (O.out.below hbd)
  clear hbd d0 d1 LX LD n0 n1 n2 n3 n4 n5 n6 e0 e1 e2 e3 e4 e5 r0 r1 r2 r3 rf0 rf1 rf2 rf3 x0 x1 x2 x3 xf0 xf1 xf2 xf3 y0 y1 y2 y3 yf0 yf1 yf2 yf3
  have n0 := (O.out.b7).c0; have n1 : _ = _ := (O.out.b7).box1; have n2 := (O.out.b7).box2; have n3 := (O.out.b7).box3; have n4 := (O.out.b7).box4; have n5 := (O.out.b7).box5; have n6 := (O.out.b7).box6; have e0 := (O.out.b6).c0; have e1 := (O.out.b6).c1; have e2 := (O.out.b6).c2; have e3 := (O.out.b6).c3; have e4 := (O.out.b6).c4; have e5 := (O.out.b6).c5; have r0 := (O.out.r4).c0; have r1 := (O.out.r4).c1; have r2 := (O.out.r4).c2; have r3 := (O.out.r4).c3; have rf0 := (O.out.r4).f0; have rf1 := (O.out.r4).f1; have rf2 := (O.out.r4).f2; have rf3 := (O.out.r4).f3; have x0 := (O.out.a4).c0; have x1 := (O.out.a4).c1; have x2 := (O.out.a4).c2; have x3 := (O.out.a4).c3; have xf0 := (O.out.a4).f0; have xf1 := (O.out.a4).f1; have xf2 := (O.out.a4).f2; have xf3 := (O.out.a4).f3; have y0 := (O.out.d4).c0; have y1 := (O.out.d4).c1; have y2 := (O.out.d4).c2; have y3 := (O.out.d4).c3; have yf0 := (O.out.d4).f0; have yf1 := (O.out.d4).f1; have yf2 := (O.out.d4).f2; have yf3 := (O.out.d4).f3
  rcases HPP with ⟨rfl, HG⟩ | ⟨g3, HG⟩
  · have HE := HG.out
    subst HE
    go_wp2_with fail
    exact bodyPost_ret (v := gtV ⟨rv, T, 0, 0⟩) (by simp [results, Try.results42, go_sem, r0, r1, r2, r3, rf0, rf1, rf2, rf3, gtV]) rfl ⟨rfl, set4 O.out.hb (by omega) _ _ _ _⟩
  · have HE := HG.out
    subst HE
    have g3' : (ru != 0) = true := by rw [bne, g3]; rfl
    go_wp2_with fail
    exact bodyPost_ret (v := gtV ⟨0, T, ru, n.at_⟩) (by simp [results, Try.results42, go_sem, r0, r1, r2, r3, rf0, rf1, rf2, rf3, gtV]) rfl ⟨rfl, set4 O.out.hb (by omega) _ _ _ _⟩
set_option maxRecDepth 100000 in
set_option maxHeartbeats 6400000 in
theorem rn_bin17 (n : Ex) (v o : NV) (res t : Int) (A : Option Addr) (len cc : Nat) (a b : Gt) (w : World) (hkk : n.k = 17) (hu : a.ub = 0) (hv : b.ub = 0) (T x y rv ru : Int) (hT : mixT n.k a.t b.t = T) (hx : wrapT T a.v = x) (hy : b.v = y) (hr : doI n.k T x y = (rv, ru)) (q : Gt) (hq : q = if ru = 0 then ⟨rv, T, 0, 0⟩ else ⟨0, T, ru, n.at_⟩)  (IH : ∀ W, Below w.heap.size w W → Calls Try.prog 25 #[.slice A len cc, .int .i64 n.a, envA v o res t] W fun e' w' => e' = .returned (gtV a) ∧ Below W.heap.size W w')
    (IB : ∀ W, Below w.heap.size w W → Calls Try.prog 25 #[.slice A len cc, .int .i64 n.b, envA v o res t] W fun e' w' => e' = .returned (gtV b) ∧ Below W.heap.size W w') :
    Calls Try.prog 42 #[.slice A len cc, exA n, envA v o res t] w fun e' w' => e' = .returned (gtV (q)) ∧ Below w.heap.size w w' := by
  have HPP : (ru = 0 ∧ Hid (q = ⟨rv, T, 0, 0⟩)) ∨ ((ru == 0) = false ∧ Hid (q = ⟨0, T, ru, n.at_⟩)) := by
    by_cases hu2 : ru = 0
    · exact .inl ⟨hu2, Lib.hid (by rw [hq, if_pos hu2])⟩
    · exact .inr ⟨by rw [beq_eq_false_iff_ne]; exact hu2, Lib.hid (by rw [hq, if_neg hu2])⟩
  have LX : ∀ W, Calls Try.prog 34 #[.int .i64 T, .int .i64 a.v] W fun e w' => e = .returned (.int .i64 x) ∧ W = w' := fun W => by have := r_wrap_c T a.v W; rwa [hx] at this
  have MC : ∀ W, Calls Try.prog 32 #[.int .i64 n.k, .int .i64 a.t, .int .i64 b.t] W fun e w' => e = .returned (.int .i64 T) ∧ W = w' := fun W => by have := r_mixed_c n.k a.t b.t W (by omega); rwa [hT] at this
  have LD : ∀ W, Calls Try.prog 61 #[.int .i64 n.k, .int .i64 T, .int .i64 x, .int .i64 y] W fun e w' => e = .returned (.tuple #[.int .i64 rv, .int .i64 ru]) ∧ W = w' := fun W => by have := r_do_c n.k T x y W; rwa [hr] at this
  have HU := Lib.hid hu
  have HV := Lib.hid hv
  rw [hkk] at MC LD
  have HK : Hid (n.k = 17) := Lib.hid hkk
  clear hu hv hT hx hr hq hkk
  subst hy
  unfold exA envA
  have IH2 : ∀ W, Below w.heap.size w W → Calls Try.prog 25 #[.slice A len cc, .int .i64 n.a, .agg #[.pointer v.mp, .slice v.ba v.bl v.bc, .pointer o.mp, .slice o.ba o.bl o.bc, .int .i64 res, .int .i64 t]] W fun e' w' => e' = .returned (.agg #[.int .i64 a.v, .int .i64 a.t, .int .i64 a.ub, .int .i64 a.at_]) ∧ Below W.heap.size W w' := IH
  clear IH
  have IB2 : ∀ W, Below w.heap.size w W → Calls Try.prog 25 #[.slice A len cc, .int .i64 n.b, .agg #[.pointer v.mp, .slice v.ba v.bl v.bc, .pointer o.mp, .slice o.ba o.bl o.bc, .int .i64 res, .int .i64 t]] W fun e' w' => e' = .returned (.agg #[.int .i64 b.v, .int .i64 b.t, .int .i64 b.ub, .int .i64 b.at_]) ∧ Below W.heap.size W w' := IB
  clear IB
  go_enter Try.func42, Try.ntmps42
  go_upto_region 1 with fail
  refine at_world (fun W => NmI w W n v o res t) ⟨(by repeat' (first | exact Below.refl _ _ | (refine Below.alloc ?_ ?_ _) | (refine Below.setCell ?_ ?_ _) | (refine Below.drew ?_) | (refine below_next ?_ ?_ (by assumption)) | omega | (simp; done) | (simp; omega))), ⟨by first | (simp; done) | (simp; omega), by simp [go_sem], by simp [go_sem], by simp [go_sem], by simp [go_sem], by simp [go_sem], by simp [go_sem], by simp [go_sem]⟩, ⟨by first | (simp; done) | (simp; omega), by simp [go_sem], by simp [go_sem], by simp [go_sem], by simp [go_sem], by simp [go_sem], by simp [go_sem]⟩, ⟨by first | (simp; done) | (simp; omega), by simp [go_sem], by simp [go_sem], by simp [go_sem], by simp [go_sem], by simp [go_sem], by simp [go_sem], by simp [go_sem], by simp [go_sem]⟩⟩ ?_
  intro W0 N0
  have N := Lib.hid N0
  have n0 := (N0.b7).c0; have n1 : _ = _ := (N0.b7).box1; have n2 := (N0.b7).box2; have n3 := (N0.b7).box3; have n4 := (N0.b7).box4; have n5 := (N0.b7).box5; have n6 := (N0.b7).box6
  have e0 := (N0.b6).c0; have e1 := (N0.b6).c1; have e2 := (N0.b6).c2; have e3 := (N0.b6).c3; have e4 := (N0.b6).c4; have e5 := (N0.b6).c5
  have hsz0 : w.heap.size + 3 ≤ W0.heap.size := by have := N0.b4.lt; omega
  clear N0
  rw [HK.out] at n0
  go_upto_region 4 with (go_at_call 25; refine (IH2 _ N.out.hb).mono ?_; rintro e' w1 ⟨rfl, hb1⟩; have N := Lib.hid (N.out.below hb1); have hs1 := hb1.size; clear hb1 IH2)
  refine at_world (fun W => NmI w W n v o res t ∧ Bx4 W w1.heap.size a ∧ W.heap.size = w1.heap.size + 1) ⟨N.out.below (by repeat' (first | exact Below.refl _ _ | (refine Below.alloc ?_ ?_ _) | (refine Below.setCell ?_ ?_ _) | (refine Below.drew ?_) | (refine below_next ?_ ?_ (by assumption)) | omega | (simp; done) | (simp; omega))), ⟨by first | (simp; done) | (simp; omega), by simp [go_sem], by simp [go_sem], by simp [go_sem], by simp [go_sem], by simp [go_sem], by simp [go_sem], by simp [go_sem], by simp [go_sem]⟩, by simp⟩ ?_
  rintro W2 ⟨N2, A2, hz2⟩
  clear N n0 n1 n2 n3 n4 n5 n6 e0 e1 e2 e3 e4 e5
  have N := Lib.hid N2
  have n0 := (N2.b7).c0; have n1 : _ = _ := (N2.b7).box1; have n2 := (N2.b7).box2; have n3 := (N2.b7).box3; have n4 := (N2.b7).box4; have n5 := (N2.b7).box5; have n6 := (N2.b7).box6
  rw [HK.out] at n0
  go_upto_region 6 with fail
  refine at_world (fun W => OnI w W n v o res t w1.heap.size (w1.heap.size + 1) a ⟨0, 5, 0, 0⟩) ⟨below_next N2.hb N2.hb.size (by repeat' (first | exact Below.refl _ _ | (refine Below.alloc ?_ ?_ _) | (refine Below.setCell ?_ ?_ _) | (refine Below.drew ?_) | (refine below_next ?_ ?_ (by assumption)) | omega | (simp; done) | (simp; omega))), N2.b7.below (by repeat' (first | exact Below.refl _ _ | (refine Below.alloc ?_ ?_ _) | (refine Below.setCell ?_ ?_ _) | (refine Below.drew ?_) | (refine below_next ?_ ?_ (by assumption)) | omega | (simp; done) | (simp; omega))), N2.b6.below (by repeat' (first | exact Below.refl _ _ | (refine Below.alloc ?_ ?_ _) | (refine Below.setCell ?_ ?_ _) | (refine Below.drew ?_) | (refine below_next ?_ ?_ (by assumption)) | omega | (simp; done) | (simp; omega))), N2.b4.below (by repeat' (first | exact Below.refl _ _ | (refine Below.alloc ?_ ?_ _) | (refine Below.setCell ?_ ?_ _) | (refine Below.drew ?_) | (refine below_next ?_ ?_ (by assumption)) | omega | (simp; done) | (simp; omega))), A2.below (by repeat' (first | exact Below.refl _ _ | (refine Below.alloc ?_ ?_ _) | (refine Below.setCell ?_ ?_ _) | (refine Below.drew ?_) | (refine below_next ?_ ?_ (by assumption)) | omega | (simp; done) | (simp; omega))), by rw [← hz2]; exact ⟨by first | (simp; done) | (simp; omega), by simp [go_sem], by simp [go_sem], by simp [go_sem], by simp [go_sem], by simp [go_sem], by simp [go_sem], by simp [go_sem], by simp [go_sem]⟩, by omega, by omega⟩ ?_
  intro W3 O3
  obtain ⟨D3, hD3⟩ : ∃ x, w1.heap.size = x := ⟨_, rfl⟩
  simp only [hz2, hD3] at O3 ⊢
  clear hD3 hz2 N2 A2 N hsz0 hs1 n0 n1 n2 n3 n4 n5 n6
  have O := Lib.hid O3
  have n0 := (O3.b7).c0; have n1 : _ = _ := (O3.b7).box1; have n2 := (O3.b7).box2; have n3 := (O3.b7).box3; have n4 := (O3.b7).box4; have n5 := (O3.b7).box5; have n6 := (O3.b7).box6; have e0 := (O3.b6).c0; have e1 := (O3.b6).c1; have e2 := (O3.b6).c2; have e3 := (O3.b6).c3; have e4 := (O3.b6).c4; have e5 := (O3.b6).c5; have r0 := (O3.r4).c0; have r1 := (O3.r4).c1; have r2 := (O3.r4).c2; have r3 := (O3.r4).c3; have rf0 := (O3.r4).f0; have rf1 := (O3.r4).f1; have rf2 := (O3.r4).f2; have rf3 := (O3.r4).f3; have x0 := (O3.a4).c0; have x1 := (O3.a4).c1; have x2 := (O3.a4).c2; have x3 := (O3.a4).c3; have xf0 := (O3.a4).f0; have xf1 := (O3.a4).f1; have xf2 := (O3.a4).f2; have xf3 := (O3.a4).f3; have y0 := (O3.d4).c0; have y1 := (O3.d4).c1; have y2 := (O3.d4).c2; have y3 := (O3.d4).c3; have yf0 := (O3.d4).f0; have yf1 := (O3.d4).f1; have yf2 := (O3.d4).f2; have yf3 := (O3.d4).f3
  have h3 := O3.h3
  clear O3
  rw [HK.out] at n0
  go_upto_region 8 with (go_at_call 25; refine (IB2 _ O.out.hb).mono ?_; rintro e' w5 ⟨rfl, hb5⟩; have O5 := O.out.below hb5; have O := Lib.hid O5; have z0 := (O5.d4).c0; have z1 := (O5.d4).c1; have z2 := (O5.d4).c2; have z3 := (O5.d4).c3; have zf0 := (O5.d4).f0; have zf1 := (O5.d4).f1; have zf2 := (O5.d4).f2; have zf3 := (O5.d4).f3; clear hb5 IB2 O5)
  refine at_world (fun W => OnI w W n v o res t D3 (D3 + 1) a b) (O.out.set b) ?_
  intro W9 O6
  clear n0 n1 n2 n3 n4 n5 n6 e0 e1 e2 e3 e4 e5 r0 r1 r2 r3 rf0 rf1 rf2 rf3 x0 x1 x2 x3 xf0 xf1 xf2 xf3 y0 y1 y2 y3 yf0 yf1 yf2 yf3 O z0 zf0 z1 zf1 z2 zf2 z3 zf3
  have O := Lib.hid O6
  have n0 := (O6.b7).c0; have n1 : _ = _ := (O6.b7).box1; have n2 := (O6.b7).box2; have n3 := (O6.b7).box3; have n4 := (O6.b7).box4; have n5 := (O6.b7).box5; have n6 := (O6.b7).box6; have e0 := (O6.b6).c0; have e1 := (O6.b6).c1; have e2 := (O6.b6).c2; have e3 := (O6.b6).c3; have e4 := (O6.b6).c4; have e5 := (O6.b6).c5; have r0 := (O6.r4).c0; have r1 := (O6.r4).c1; have r2 := (O6.r4).c2; have r3 := (O6.r4).c3; have rf0 := (O6.r4).f0; have rf1 := (O6.r4).f1; have rf2 := (O6.r4).f2; have rf3 := (O6.r4).f3; have x0 := (O6.a4).c0; have x1 := (O6.a4).c1; have x2 := (O6.a4).c2; have x3 := (O6.a4).c3; have xf0 := (O6.a4).f0; have xf1 := (O6.a4).f1; have xf2 := (O6.a4).f2; have xf3 := (O6.a4).f3; have y0 := (O6.d4).c0; have y1 := (O6.d4).c1; have y2 := (O6.d4).c2; have y3 := (O6.d4).c3; have yf0 := (O6.d4).f0; have yf1 := (O6.d4).f1; have yf2 := (O6.d4).f2; have yf3 := (O6.d4).f3
  clear O6
  rw [HK.out] at n0
  rw [HU.out] at x2
  rw [HV.out] at y2
  go_upto_region 22 with (go_at_call 32; refine (MC _).mono ?_; rintro e' w9 ⟨rfl, rfl⟩; clear MC)
  have d0 := fun (x' : WIn (Below W9.heap.size W9)) => cell_later x'.h n0
  have d1 := fun (x' : WIn (Below W9.heap.size W9)) => cell_later x'.h x0
  refine region_in (Below W9.heap.size W9) (by kernel_rfl) (by kernel_rfl) (Below.refl _ _).drew (fun inst => ?_)
  iterate 14 (go_big_quiet_step (first | (go_at_call 34; exact call_same _ (LX _)) | (go_at_call 61; exact call_same _ (LD _))))
  refine wpQuiet_nil ?_
  intro wd hbd
  have O := Lib.hid (O.out.below hbd)
  clear hbd d0 d1 LX LD n0 n1 n2 n3 n4 n5 n6 e0 e1 e2 e3 e4 e5 r0 r1 r2 r3 rf0 rf1 rf2 rf3 x0 x1 x2 x3 xf0 xf1 xf2 xf3 y0 y1 y2 y3 yf0 yf1 yf2 yf3
  have n0 := (O.out.b7).c0; have n1 : _ = _ := (O.out.b7).box1; have n2 := (O.out.b7).box2; have n3 := (O.out.b7).box3; have n4 := (O.out.b7).box4; have n5 := (O.out.b7).box5; have n6 := (O.out.b7).box6; have e0 := (O.out.b6).c0; have e1 := (O.out.b6).c1; have e2 := (O.out.b6).c2; have e3 := (O.out.b6).c3; have e4 := (O.out.b6).c4; have e5 := (O.out.b6).c5; have r0 := (O.out.r4).c0; have r1 := (O.out.r4).c1; have r2 := (O.out.r4).c2; have r3 := (O.out.r4).c3; have rf0 := (O.out.r4).f0; have rf1 := (O.out.r4).f1; have rf2 := (O.out.r4).f2; have rf3 := (O.out.r4).f3; have x0 := (O.out.a4).c0; have x1 := (O.out.a4).c1; have x2 := (O.out.a4).c2; have x3 := (O.out.a4).c3; have xf0 := (O.out.a4).f0; have xf1 := (O.out.a4).f1; have xf2 := (O.out.a4).f2; have xf3 := (O.out.a4).f3; have y0 := (O.out.d4).c0; have y1 := (O.out.d4).c1; have y2 := (O.out.d4).c2; have y3 := (O.out.d4).c3; have yf0 := (O.out.d4).f0; have yf1 := (O.out.d4).f1; have yf2 := (O.out.d4).f2; have yf3 := (O.out.d4).f3
  rcases HPP with ⟨rfl, HG⟩ | ⟨g3, HG⟩
  · have HE := HG.out
    subst HE
    go_wp2_with fail
    exact bodyPost_ret (v := gtV ⟨rv, T, 0, 0⟩) (by simp [results, Try.results42, go_sem, r0, r1, r2, r3, rf0, rf1, rf2, rf3, gtV]) rfl ⟨rfl, set4 O.out.hb (by omega) _ _ _ _⟩
  · have HE := HG.out
    subst HE
    have g3' : (ru != 0) = true := by rw [bne, g3]; rfl
    go_wp2_with fail
    exact bodyPost_ret (v := gtV ⟨0, T, ru, n.at_⟩) (by simp [results, Try.results42, go_sem, r0, r1, r2, r3, rf0, rf1, rf2, rf3, gtV]) rfl ⟨rfl, set4 O.out.hb (by omega) _ _ _ _⟩
end Go.Proofs.Ytlhenpocaagbjaa.C

namespace Go.Proofs.Ytlhenpocaagbjaa.C
open Go.RowKit
set_option linter.unusedSimpArgs false
set_option linter.unusedVariables false
set_option maxRecDepth 100000 in
set_option maxHeartbeats 6400000 in
theorem nd_out (v o : NV) (res t at_ : Int) (A : Option Addr) (len cc : Nat) (w : World) (h : at_ < 0 ∨ (len : Int) ≤ at_) :
    Calls Try.prog 24 #[.slice A len cc, .int .i64 at_, envA v o res t] w fun e' w' => e' = .returned (gtV ⟨0, 5, 0, 0⟩) ∧ Below w.heap.size w w' := by
  unfold envA
  rcases (by omega : at_ < 0 ∨ (0 ≤ at_ ∧ (len : Int) ≤ at_)) with h1 | ⟨h1, h2⟩
  · clear h
    go_enter Try.func24, Try.ntmps24
    go_upto_region 1 with fail
    refine at_world (fun W => Below w.heap.size w W ∧ Bx4 W (w.heap.size + 1) ⟨0, 0, 0, 0⟩) ⟨(by repeat' (first | exact Below.refl _ _ | (refine Below.alloc ?_ ?_ _) | (refine Below.setCell ?_ ?_ _) | (refine Below.drew ?_) | (refine below_next ?_ ?_ (by assumption)) | omega | (simp; done) | (simp; omega))), ⟨by first | (simp; done) | (simp; omega), by simp [go_sem], by simp [go_sem], by simp [go_sem], by simp [go_sem], by simp [go_sem], by simp [go_sem], by simp [go_sem], by simp [go_sem]⟩⟩ ?_
    rintro W0 ⟨hb0, R4⟩
    have r0 := (R4).c0; have r1 := (R4).c1; have r2 := (R4).c2; have r3 := (R4).c3; have rf0 := (R4).f0; have rf1 := (R4).f1; have rf2 := (R4).f2; have rf3 := (R4).f3
    go_wp2_with fail
    exact bodyPost_ret (v := gtV ⟨0, 5, 0, 0⟩) (by simp [results, Try.results24, go_sem, r0, r1, r2, r3, rf0, rf1, rf2, rf3, gtV]) rfl ⟨rfl, set4 hb0 (by omega) _ _ _ _⟩
  · have g0 : decide (at_ < 0) = false := decide_eq_false (by omega)
    clear h
    go_enter Try.func24, Try.ntmps24
    go_upto_region 1 with fail
    refine at_world (fun W => Below w.heap.size w W ∧ Bx4 W (w.heap.size + 1) ⟨0, 0, 0, 0⟩) ⟨(by repeat' (first | exact Below.refl _ _ | (refine Below.alloc ?_ ?_ _) | (refine Below.setCell ?_ ?_ _) | (refine Below.drew ?_) | (refine below_next ?_ ?_ (by assumption)) | omega | (simp; done) | (simp; omega))), ⟨by first | (simp; done) | (simp; omega), by simp [go_sem], by simp [go_sem], by simp [go_sem], by simp [go_sem], by simp [go_sem], by simp [go_sem], by simp [go_sem], by simp [go_sem]⟩⟩ ?_
    rintro W0 ⟨hb0, R4⟩
    have r0 := (R4).c0; have r1 := (R4).c1; have r2 := (R4).c2; have r3 := (R4).c3; have rf0 := (R4).f0; have rf1 := (R4).f1; have rf2 := (R4).f2; have rf3 := (R4).f3
    go_wp2_with fail
    exact bodyPost_ret (v := gtV ⟨0, 5, 0, 0⟩) (by simp [results, Try.results24, go_sem, r0, r1, r2, r3, rf0, rf1, rf2, rf3, gtV]) rfl ⟨rfl, set4 hb0 (by omega) _ _ _ _⟩
theorem node_c (l : List Ex) (hK : Kids l) (A : Option Addr) (cc : Nat) (o : NV) (eo : Env0) (res t : Int) : ∀ (f : Nat) (at_ : Int) (v : NV) (e : Env0) (w : World), (at_ < (f : Int) ∨ (l.length : Int) ≤ at_) → ER w A l → NOK 59 w v e → NOK 59 w o eo →
    Calls Try.prog 24 #[.slice A l.length cc, .int .i64 at_, envA v o res t] w fun e' w' => e' = .returned (gtV (vF l eo res t f e at_)) ∧ Below w.heap.size w w' := by
  intro f
  induction f with
  | zero =>
    intro at_ v e w hat hE hv ho
    exact nd_out v o res t at_ A l.length cc w (by omega)
  | succ f ih =>
    intro at_ v e w hat hE hv ho
    by_cases hout : at_ < 0 ∨ (l.length : Int) ≤ at_
    · rw [vF, if_pos hout]
      exact nd_out v o res t at_ A l.length cc w hout
    · obtain ⟨j, rfl⟩ := Int.eq_ofNat_of_zero_le (show 0 ≤ at_ by omega)
      have hj : j < l.length := by omega
      have hne : l ≠ [] := by intro x; rw [x] at hj; simp at hj
      obtain ⟨g, rfl, hg⟩ := hE hne
      obtain ⟨n, hn⟩ : ∃ n, l.getD j ex0 = n := ⟨_, rfl⟩
      have hget : l[j]? = some n := by rw [← hn]; simp [List.getD, hj]
      have hB := hg j n hget
      obtain ⟨⟨ka, kb⟩, ka1, kb1⟩ := hK j n hget
      rw [vF, if_neg hout]
      simp only [Int.toNat_natCast, hn]
      have IA : ∀ W, Below w.heap.size w W → Calls Try.prog 24 #[.slice (some ⟨g, 0, none⟩) l.length cc, .int .i64 n.a, envA v o res t] W fun e' w' => e' = .returned (gtV (vF l eo res t f e n.a)) ∧ Below W.heap.size W w' := fun W hb => ih n.a v e W (by omega) (hE.below hb) (hv.below hb) (ho.below hb)
      have IB : ∀ W, Below w.heap.size w W → Calls Try.prog 24 #[.slice (some ⟨g, 0, none⟩) l.length cc, .int .i64 n.b, envA v o res t] W fun e' w' => e' = .returned (gtV (vF l eo res t f e n.b)) ∧ Below W.heap.size W w' := fun W hb => ih n.b v e W (by omega) (hE.below hb) (hv.below hb) (ho.below hb)
      obtain ⟨a, ha⟩ : ∃ a, vF l eo res t f e n.a = a := ⟨_, rfl⟩
      obtain ⟨b, hb⟩ : ∃ b, vF l eo res t f e n.b = b := ⟨_, rfl⟩
      rw [ha] at IA ⊢
      rw [hb] at IB ⊢
      have IAW : ∀ W, Below w.heap.size w W → ∀ W', Below W.heap.size W W' → Calls Try.prog 24 #[.slice (some ⟨g, 0, none⟩) l.length cc, .int .i64 n.a, envA v o res t] W' fun e' w' => e' = .returned (gtV a) ∧ Below W'.heap.size W' w' := fun W hb W' hb' => IA W' (below_next hb hb.size hb')
      by_cases h1 : n.k = 1
      · rw [if_pos h1]
        exact nd_num n v o res t g l.length cc j w hj hB h1
      rw [if_neg h1]
      by_cases h2 : n.k = 2
      · rw [if_pos h2]
        exact nd_var n v o res t g l.length cc j w hj hB h2 _ (fun W hb => name_c n v o res t 0 e W (hv.below hb))
      rw [if_neg h2]
      by_cases h5 : n.k = 5
      · rw [if_pos h5]
        exact nd_res n v o res t g l.length cc j w hj hB h5
      rw [if_neg h5]
      by_cases h4 : n.k = 4
      · rw [if_pos h4]
        exact nd_old n v o res t g l.length cc j w hj hB h4 _ (fun W hb => ih n.a o eo W (by omega) (hE.below hb) (ho.below hb) (ho.below hb))
      rw [if_neg h4]
      by_cases h3 : n.k = 3
      · rw [if_pos h3]
        refine nd_one3 n v o res t g l.length cc j w hj hB h3 _ (fun W hb => ?_)
        by_cases hu : a.ub = 0
        · exact one_elem n v o res t e _ _ _ a W (hv.below hb) h3 hu (IAW W hb)
        · exact one_elem2 n v o res t e _ _ _ a W (hv.below hb) h3 hu (IAW W hb)
      rw [if_neg h3]
      by_cases h18 : n.k = 18
      · rw [if_pos h18]
        refine nd_one18 n v o res t g l.length cc j w hj hB h18 _ (fun W hb => ?_)
        by_cases hu : a.ub = 0
        · exact one_cast n v o res t e _ _ _ a W (hv.below hb) h18 hu (IAW W hb)
        · exact one_cast2 n v o res t e _ _ _ a W (hv.below hb) h18 hu (IAW W hb)
      rw [if_neg h18]
      by_cases h67 : n.k = 6 ∨ n.k = 7
      · rw [if_pos h67]
        have key : ∀ W, Below w.heap.size w W → Calls Try.prog 38 #[.slice (some ⟨g, 0, none⟩) l.length cc, exA n, envA v o res t] W fun e' w' => e' = .returned (gtV (unP n a)) ∧ Below W.heap.size W w' := fun W hb => by
          by_cases hu : a.ub = 0
          · exact one_un n v o res t e _ _ _ a W (hv.below hb) h67 hu (IAW W hb)
          · exact one_un2 n v o res t e _ _ _ a W (hv.below hb) h67 hu (IAW W hb)
        rcases h67 with h6 | h7
        · exact nd_one6 n v o res t g l.length cc j w hj hB h6 _ key
        · exact nd_one7 n v o res t g l.length cc j w hj hB h7 _ key
      rw [if_neg h67]
      by_cases hr : n.k < 8 ∨ 17 < n.k
      · rw [if_pos hr]
        exact nd_none n v o res t g l.length cc j w hj hB h1 h2 h5 h4 h3 (fun x => h67 (.inl x)) (fun x => h67 (.inr x)) h18 hr
      rw [if_neg hr]
      unfold binP
      by_cases hu : a.ub = 0
      · rw [if_pos hu]
        by_cases hv2 : b.ub = 0
        · rw [if_pos hv2]
          exact nd_bin3 n v o res t g l.length cc j w hj hB (by omega) (by omega) a b _ hu hv2 (fun W => etwo_c n a b W) IA IB
        · rw [if_neg hv2]
          exact nd_bin2 n v o res t g l.length cc j w hj hB (by omega) (by omega) a b hu hv2 IA IB
      · rw [if_neg hu]
        exact nd_bin1 n v o res t g l.length cc j w hj hB (by omega) (by omega) a b hu IA IB
/-- What Value answers. -/
def gtT (g : Gt) : Value := .tuple #[.int .i64 g.v, .int .i64 g.t, .int .i64 g.ub, .int .i64 g.at_]
set_option maxRecDepth 100000 in
set_option maxHeartbeats 6400000 in
theorem value_c (l : List Ex) (hK : Kids l) (A : Option Addr) (cc : Nat) (v o : NV) (e eo : Env0) (res t : Int) (at_ : Int) (w : World) (hE : ER w A l) (hv : NOK 59 w v e) (ho : NOK 59 w o eo) :
    Calls Try.prog 12 #[.slice A l.length cc, .int .i64 at_, envA v o res t] w fun e' w' => e' = .returned (gtT (vF l eo res t l.length e at_)) ∧ Below w.heap.size w w' := by
  have IH : ∀ W, Below w.heap.size w W → Calls Try.prog 24 #[.slice A l.length cc, .int .i64 at_, envA v o res t] W fun e' w' => e' = .returned (gtV (vF l eo res t l.length e at_)) ∧ Below W.heap.size W w' := fun W hb => node_c l hK A cc o eo res t l.length at_ v e W (by omega) (hE.below hb) (hv.below hb) (ho.below hb)
  obtain ⟨a, ha⟩ : ∃ a, vF l eo res t l.length e at_ = a := ⟨_, rfl⟩
  rw [ha] at IH ⊢
  unfold envA gtV at IH
  unfold envA gtT
  clear ha hE hv ho hK
  go_enter Try.func12, Try.ntmps12
  go_upto_region 1 with fail
  refine at_world (fun W => Below w.heap.size w W ∧ Bx6 W w.heap.size v o res t) ⟨(by repeat' (first | exact Below.refl _ _ | (refine Below.alloc ?_ ?_ _) | (refine Below.setCell ?_ ?_ _) | (refine Below.drew ?_) | (refine below_next ?_ ?_ (by assumption)) | omega | (simp; done) | (simp; omega))), ⟨by first | (simp; done) | (simp; omega), by simp [go_sem], by simp [go_sem], by simp [go_sem], by simp [go_sem], by simp [go_sem], by simp [go_sem]⟩⟩ ?_
  rintro W0 ⟨hb0, B6⟩
  have e0 := (B6).c0; have e1 := (B6).c1; have e2 := (B6).c2; have e3 := (B6).c3; have e4 := (B6).c4; have e5 := (B6).c5
  clear B6
  go_upto_region 2 with (go_at_call 24; refine (IH _ hb0).mono ?_; rintro e' w5 ⟨rfl, hb5⟩; have hb6 := below_next hb0 hb0.size hb5; clear hb5 IH)
  refine at_world (fun W => Below w.heap.size w W ∧ Bx4 W w5.heap.size a) ⟨below_next hb6 hb6.size (by repeat' (first | exact Below.refl _ _ | (refine Below.alloc ?_ ?_ _) | (refine Below.setCell ?_ ?_ _) | (refine Below.drew ?_) | (refine below_next ?_ ?_ (by assumption)) | omega | (simp; done) | (simp; omega))), ⟨by first | (simp; done) | (simp; omega), by simp [go_sem], by simp [go_sem], by simp [go_sem], by simp [go_sem], by simp [go_sem], by simp [go_sem], by simp [go_sem], by simp [go_sem]⟩⟩ ?_
  rintro W7 ⟨hb7, A4⟩
  obtain ⟨D, hD⟩ : ∃ x, w5.heap.size = x := ⟨_, rfl⟩
  simp only [hD] at A4 ⊢
  have r0 := (A4).c0; have r1 := (A4).c1; have r2 := (A4).c2; have r3 := (A4).c3; have rf0 := (A4).f0; have rf1 := (A4).f1; have rf2 := (A4).f2; have rf3 := (A4).f3
  clear hb6 A4 hD e0 e1 e2 e3 e4 e5
  go_region
  all_goals go_wp2
  all_goals exact bodyPost_ret (v := .tuple #[.int .i64 a.v, .int .i64 a.t, .int .i64 a.ub, .int .i64 a.at_]) (by simp [results, Try.results12, go_sem]) rfl ⟨rfl, hb7.drew⟩
end Go.Proofs.Ytlhenpocaagbjaa.C

namespace Go.Proofs.Ytlhenpocaagbjaa.C
open Go.RowKit
set_option linter.unusedSimpArgs false
set_option linter.unusedVariables false
set_option maxRecDepth 100000 in
set_option maxHeartbeats 6400000 in
theorem rv_out (v o : NV) (res t at_ : Int) (A : Option Addr) (len cc : Nat) (w : World) (h : at_ < 0 ∨ (len : Int) ≤ at_) :
    Calls Try.prog 25 #[.slice A len cc, .int .i64 at_, envA v o res t] w fun e' w' => e' = .returned (gtV ⟨0, 5, 0, 0⟩) ∧ Below w.heap.size w w' := by
  unfold envA
  rcases (by omega : at_ < 0 ∨ (0 ≤ at_ ∧ (len : Int) ≤ at_)) with h1 | ⟨h1, h2⟩
  · clear h
    go_enter Try.func25, Try.ntmps25
    go_upto_region 1 with fail
    refine at_world (fun W => Below w.heap.size w W ∧ Bx4 W (w.heap.size + 1) ⟨0, 0, 0, 0⟩) ⟨(by repeat' (first | exact Below.refl _ _ | (refine Below.alloc ?_ ?_ _) | (refine Below.setCell ?_ ?_ _) | (refine Below.drew ?_) | (refine below_next ?_ ?_ (by assumption)) | omega | (simp; done) | (simp; omega))), ⟨by first | (simp; done) | (simp; omega), by simp [go_sem], by simp [go_sem], by simp [go_sem], by simp [go_sem], by simp [go_sem], by simp [go_sem], by simp [go_sem], by simp [go_sem]⟩⟩ ?_
    rintro W0 ⟨hb0, R4⟩
    have r0 := (R4).c0; have r1 := (R4).c1; have r2 := (R4).c2; have r3 := (R4).c3; have rf0 := (R4).f0; have rf1 := (R4).f1; have rf2 := (R4).f2; have rf3 := (R4).f3
    go_wp2_with fail
    exact bodyPost_ret (v := gtV ⟨0, 5, 0, 0⟩) (by simp [results, Try.results25, go_sem, r0, r1, r2, r3, rf0, rf1, rf2, rf3, gtV]) rfl ⟨rfl, set4 hb0 (by omega) _ _ _ _⟩
  · have g0 : decide (at_ < 0) = false := decide_eq_false (by omega)
    clear h
    go_enter Try.func25, Try.ntmps25
    go_upto_region 1 with fail
    refine at_world (fun W => Below w.heap.size w W ∧ Bx4 W (w.heap.size + 1) ⟨0, 0, 0, 0⟩) ⟨(by repeat' (first | exact Below.refl _ _ | (refine Below.alloc ?_ ?_ _) | (refine Below.setCell ?_ ?_ _) | (refine Below.drew ?_) | (refine below_next ?_ ?_ (by assumption)) | omega | (simp; done) | (simp; omega))), ⟨by first | (simp; done) | (simp; omega), by simp [go_sem], by simp [go_sem], by simp [go_sem], by simp [go_sem], by simp [go_sem], by simp [go_sem], by simp [go_sem], by simp [go_sem]⟩⟩ ?_
    rintro W0 ⟨hb0, R4⟩
    have r0 := (R4).c0; have r1 := (R4).c1; have r2 := (R4).c2; have r3 := (R4).c3; have rf0 := (R4).f0; have rf1 := (R4).f1; have rf2 := (R4).f2; have rf3 := (R4).f3
    go_wp2_with fail
    exact bodyPost_ret (v := gtV ⟨0, 5, 0, 0⟩) (by simp [results, Try.results25, go_sem, r0, r1, r2, r3, rf0, rf1, rf2, rf3, gtV]) rfl ⟨rfl, set4 hb0 (by omega) _ _ _ _⟩
theorem mixT_un (k a b : Int) (h : k = 6 ∨ k = 7) (b' : Int) : mixT k a b = mixT k a b' := by
  unfold mixT
  rw [if_pos (by omega), if_pos (by omega)]
/-- The reference's node: its cases joined. -/
theorem rnode_c (n : Ex) (v o : NV) (res t : Int) (A : Option Addr) (len cc : Nat) (a b : Gt) (w : World) (h1 : n.k ≠ 1) (h2 : n.k ≠ 2) (h3 : n.k ≠ 3) (h4 : n.k ≠ 4) (h5 : n.k ≠ 5)
    (IA : ∀ W, Below w.heap.size w W → Calls Try.prog 25 #[.slice A len cc, .int .i64 n.a, envA v o res t] W fun e' w' => e' = .returned (gtV a) ∧ Below W.heap.size W w')
    (IB : ∀ W, Below w.heap.size w W → Calls Try.prog 25 #[.slice A len cc, .int .i64 n.b, envA v o res t] W fun e' w' => e' = .returned (gtV b) ∧ Below W.heap.size W w') :
    Calls Try.prog 42 #[.slice A len cc, exA n, envA v o res t] w fun e' w' => e' = .returned (gtV (if n.k = 18 then castP n a else if n.k = 6 ∨ n.k = 7 then unP n a else if n.k < 8 ∨ 17 < n.k then ⟨0, 5, 0, 0⟩ else binP n a b)) ∧ Below w.heap.size w w' := by
  by_cases h18 : n.k = 18
  · rw [if_pos h18]
    unfold castP
    by_cases hu : a.ub = 0
    · rw [if_pos hu]
      exact rn_cast n v o res t A len cc a b w h18 hu IA
    · rw [if_neg hu]
      exact rn_cast2 n v o res t A len cc a b w h18 hu IA
  rw [if_neg h18]
  by_cases h67 : n.k = 6 ∨ n.k = 7
  · rw [if_pos h67]
    unfold unP
    by_cases hu : a.ub = 0
    · rw [if_pos hu]
      have hT : mixT n.k a.t (⟨0, a.t, 0, 0⟩ : Gt).t = mixT n.k a.t 5 := mixT_un _ _ _ h67 _
      have hq : twoP n.k n.at_ a ⟨0, a.t, 0, 0⟩ = if (doI n.k (mixT n.k a.t 5) (wrapT (mixT n.k a.t 5) a.v) (wrapT (mixT n.k a.t 5) 0)).2 = 0 then ⟨(doI n.k (mixT n.k a.t 5) (wrapT (mixT n.k a.t 5) a.v) (wrapT (mixT n.k a.t 5) 0)).1, mixT n.k a.t 5, 0, 0⟩ else ⟨0, mixT n.k a.t 5, (doI n.k (mixT n.k a.t 5) (wrapT (mixT n.k a.t 5) a.v) (wrapT (mixT n.k a.t 5) 0)).2, n.at_⟩ := by
        unfold twoP
        simp only [hT]
        rw [if_neg (show ¬ (n.k = 16 ∨ n.k = 17) by omega)]
      rcases h67 with h6 | h7
      · exact rn_und6 n v o res t A len cc a b w h6 hu _ _ _ _ _ rfl rfl rfl rfl _ hq IA
      · exact rn_und7 n v o res t A len cc a b w h7 hu _ _ _ _ _ rfl rfl rfl rfl _ hq IA
    · rw [if_neg hu]
      rcases h67 with h6 | h7
      · exact rn_un6 n v o res t A len cc a b w h6 _ (mixT_un _ _ _ (.inl h6) _) hu IA
      · exact rn_un7 n v o res t A len cc a b w h7 _ (mixT_un _ _ _ (.inr h7) _) hu IA
  rw [if_neg h67]
  by_cases hr : n.k < 8 ∨ 17 < n.k
  · rw [if_pos hr]
    exact rn_out n v o res t A len cc a b w (by omega)
  rw [if_neg hr]
  unfold binP
  by_cases hu : a.ub = 0
  · rw [if_pos hu]
    by_cases hv : b.ub = 0
    · rw [if_pos hv]
      by_cases h16 : n.k = 16
      · have hq : twoP n.k n.at_ a b = if (doI n.k (mixT n.k a.t b.t) (wrapT (mixT n.k a.t b.t) a.v) b.v).2 = 0 then ⟨(doI n.k (mixT n.k a.t b.t) (wrapT (mixT n.k a.t b.t) a.v) b.v).1, mixT n.k a.t b.t, 0, 0⟩ else ⟨0, mixT n.k a.t b.t, (doI n.k (mixT n.k a.t b.t) (wrapT (mixT n.k a.t b.t) a.v) b.v).2, n.at_⟩ := by
          unfold twoP
          simp only []
          rw [if_pos (show n.k = 16 ∨ n.k = 17 from .inl h16)]
        exact rn_bin16 n v o res t A len cc a b w h16 hu hv _ _ _ _ _ rfl rfl rfl rfl _ hq IA IB
      by_cases h17 : n.k = 17
      · have hq : twoP n.k n.at_ a b = if (doI n.k (mixT n.k a.t b.t) (wrapT (mixT n.k a.t b.t) a.v) b.v).2 = 0 then ⟨(doI n.k (mixT n.k a.t b.t) (wrapT (mixT n.k a.t b.t) a.v) b.v).1, mixT n.k a.t b.t, 0, 0⟩ else ⟨0, mixT n.k a.t b.t, (doI n.k (mixT n.k a.t b.t) (wrapT (mixT n.k a.t b.t) a.v) b.v).2, n.at_⟩ := by
          unfold twoP
          simp only []
          rw [if_pos (show n.k = 16 ∨ n.k = 17 from .inr h17)]
        exact rn_bin17 n v o res t A len cc a b w h17 hu hv _ _ _ _ _ rfl rfl rfl rfl _ hq IA IB
      have hq : twoP n.k n.at_ a b = if (doI n.k (mixT n.k a.t b.t) (wrapT (mixT n.k a.t b.t) a.v) (wrapT (mixT n.k a.t b.t) b.v)).2 = 0 then ⟨(doI n.k (mixT n.k a.t b.t) (wrapT (mixT n.k a.t b.t) a.v) (wrapT (mixT n.k a.t b.t) b.v)).1, mixT n.k a.t b.t, 0, 0⟩ else ⟨0, mixT n.k a.t b.t, (doI n.k (mixT n.k a.t b.t) (wrapT (mixT n.k a.t b.t) a.v) (wrapT (mixT n.k a.t b.t) b.v)).2, n.at_⟩ := by
        unfold twoP
        simp only []
        rw [if_neg (show ¬ (n.k = 16 ∨ n.k = 17) by omega)]
      exact rn_bin3 n v o res t A len cc a b w (by omega) (by omega) h16 h17 hu hv _ _ _ _ _ rfl rfl rfl rfl _ hq IA IB
    · rw [if_neg hv]
      exact rn_bin2 n v o res t A len cc a b w (by omega) (by omega) _ rfl hu hv IA IB
  · rw [if_neg hu]
    exact rn_bin1 n v o res t A len cc a b w (by omega) (by omega) _ rfl hu IA IB
theorem rvalue_c (l : List Ex) (hK : Kids l) (A : Option Addr) (cc : Nat) (o : NV) (eo : Env0) (res t : Int) : ∀ (f : Nat) (at_ : Int) (v : NV) (e : Env0) (w : World), (at_ < (f : Int) ∨ (l.length : Int) ≤ at_) → ER w A l → ROK w v e → ROK w o eo →
    Calls Try.prog 25 #[.slice A l.length cc, .int .i64 at_, envA v o res t] w fun e' w' => e' = .returned (gtV (vF l eo res t f e at_)) ∧ Below w.heap.size w w' := by
  intro f
  induction f with
  | zero =>
    intro at_ v e w hat hE hv ho
    exact rv_out v o res t at_ A l.length cc w (by omega)
  | succ f ih =>
    intro at_ v e w hat hE hv ho
    by_cases hout : at_ < 0 ∨ (l.length : Int) ≤ at_
    · rw [vF, if_pos hout]
      exact rv_out v o res t at_ A l.length cc w hout
    · obtain ⟨j, rfl⟩ := Int.eq_ofNat_of_zero_le (show 0 ≤ at_ by omega)
      have hj : j < l.length := by omega
      have hne : l ≠ [] := by intro x; rw [x] at hj; simp at hj
      obtain ⟨g, rfl, hg⟩ := hE hne
      obtain ⟨n, hn⟩ : ∃ n, l.getD j ex0 = n := ⟨_, rfl⟩
      have hget : l[j]? = some n := by rw [← hn]; simp [List.getD, hj]
      have hB := hg j n hget
      obtain ⟨⟨ka, kb⟩, ka1, kb1⟩ := hK j n hget
      rw [vF, if_neg hout]
      simp only [Int.toNat_natCast, hn]
      have IA : ∀ W, Below w.heap.size w W → Calls Try.prog 25 #[.slice (some ⟨g, 0, none⟩) l.length cc, .int .i64 n.a, envA v o res t] W fun e' w' => e' = .returned (gtV (vF l eo res t f e n.a)) ∧ Below W.heap.size W w' := fun W hb => ih n.a v e W (by omega) (hE.below hb) (hv.below hb) (ho.below hb)
      have IB : ∀ W, Below w.heap.size w W → Calls Try.prog 25 #[.slice (some ⟨g, 0, none⟩) l.length cc, .int .i64 n.b, envA v o res t] W fun e' w' => e' = .returned (gtV (vF l eo res t f e n.b)) ∧ Below W.heap.size W w' := fun W hb => ih n.b v e W (by omega) (hE.below hb) (hv.below hb) (ho.below hb)
      obtain ⟨a, ha⟩ : ∃ a, vF l eo res t f e n.a = a := ⟨_, rfl⟩
      obtain ⟨b, hb⟩ : ∃ b, vF l eo res t f e n.b = b := ⟨_, rfl⟩
      rw [ha] at IA ⊢
      rw [hb] at IB ⊢
      have later : ∀ {k r}, (∀ W, Below w.heap.size w W → Calls Try.prog 25 #[.slice (some ⟨g, 0, none⟩) l.length cc, .int .i64 k, envA v o res t] W fun e' w' => e' = .returned (gtV r) ∧ Below W.heap.size W w') → ∀ W, Below w.heap.size w W → ∀ W', Below W.heap.size W W' → Calls Try.prog 25 #[.slice (some ⟨g, 0, none⟩) l.length cc, .int .i64 k, envA v o res t] W' fun e' w' => e' = .returned (gtV r) ∧ Below W'.heap.size W' w' := fun H W hb W' hb' => H W' (below_next hb hb.size hb')
      by_cases h1 : n.k = 1
      · rw [if_pos h1]
        exact rv_num n v o res t g l.length cc j w hj hB h1
      rw [if_neg h1]
      by_cases h2 : n.k = 2
      · rw [if_pos h2]
        exact rv_var n v o res t g l.length cc j w hj hB h2 e hv
      rw [if_neg h2]
      by_cases h5 : n.k = 5
      · rw [if_pos h5]
        exact rv_res n v o res t g l.length cc j w hj hB h5
      rw [if_neg h5]
      by_cases h4 : n.k = 4
      · rw [if_pos h4]
        exact rv_old n v o res t g l.length cc j w hj hB h4 _ (fun W hb => ih n.a o eo W (by omega) (hE.below hb) (ho.below hb) (ho.below hb))
      rw [if_neg h4]
      by_cases h3 : n.k = 3
      · rw [if_pos h3]
        exact rv_elem n v o res t g l.length cc j w hj hB h3 _ (fun W hb => relem_c n v o res t e _ _ _ a W (hv.below hb) (later IA W hb))
      rw [if_neg h3]
      exact rv_node n v o res t g l.length cc j w hj hB h1 h2 h3 h4 h5 _ (fun W hb => rnode_c n v o res t _ _ _ a b W h1 h2 h3 h4 h5 (later IA W hb) (later IB W hb))
set_option maxRecDepth 100000 in
set_option maxHeartbeats 6400000 in
theorem rValue_c (l : List Ex) (hK : Kids l) (A : Option Addr) (cc : Nat) (v o : NV) (e eo : Env0) (res t : Int) (at_ : Int) (w : World) (hE : ER w A l) (hv : ROK w v e) (ho : ROK w o eo) :
    Calls Try.prog 13 #[.slice A l.length cc, .int .i64 at_, envA v o res t] w fun e' w' => e' = .returned (gtT (vF l eo res t l.length e at_)) ∧ Below w.heap.size w w' := by
  have IH : ∀ W, Below w.heap.size w W → Calls Try.prog 25 #[.slice A l.length cc, .int .i64 at_, envA v o res t] W fun e' w' => e' = .returned (gtV (vF l eo res t l.length e at_)) ∧ Below W.heap.size W w' := fun W hb => rvalue_c l hK A cc o eo res t l.length at_ v e W (by omega) (hE.below hb) (hv.below hb) (ho.below hb)
  obtain ⟨a, ha⟩ : ∃ a, vF l eo res t l.length e at_ = a := ⟨_, rfl⟩
  rw [ha] at IH ⊢
  unfold envA gtV at IH
  unfold envA gtT
  clear ha hE hv ho hK
  go_enter Try.func13, Try.ntmps13
  go_upto_region 1 with fail
  refine at_world (fun W => Below w.heap.size w W ∧ Bx6 W w.heap.size v o res t) ⟨(by repeat' (first | exact Below.refl _ _ | (refine Below.alloc ?_ ?_ _) | (refine Below.setCell ?_ ?_ _) | (refine Below.drew ?_) | (refine below_next ?_ ?_ (by assumption)) | omega | (simp; done) | (simp; omega))), ⟨by first | (simp; done) | (simp; omega), by simp [go_sem], by simp [go_sem], by simp [go_sem], by simp [go_sem], by simp [go_sem], by simp [go_sem]⟩⟩ ?_
  rintro W0 ⟨hb0, B6⟩
  have e0 := (B6).c0; have e1 := (B6).c1; have e2 := (B6).c2; have e3 := (B6).c3; have e4 := (B6).c4; have e5 := (B6).c5
  clear B6
  go_upto_region 2 with (go_at_call 25; refine (IH _ hb0).mono ?_; rintro e' w5 ⟨rfl, hb5⟩; have hb6 := below_next hb0 hb0.size hb5; clear hb5 IH)
  refine at_world (fun W => Below w.heap.size w W ∧ Bx4 W w5.heap.size a) ⟨below_next hb6 hb6.size (by repeat' (first | exact Below.refl _ _ | (refine Below.alloc ?_ ?_ _) | (refine Below.setCell ?_ ?_ _) | (refine Below.drew ?_) | (refine below_next ?_ ?_ (by assumption)) | omega | (simp; done) | (simp; omega))), ⟨by first | (simp; done) | (simp; omega), by simp [go_sem], by simp [go_sem], by simp [go_sem], by simp [go_sem], by simp [go_sem], by simp [go_sem], by simp [go_sem], by simp [go_sem]⟩⟩ ?_
  rintro W7 ⟨hb7, A4⟩
  obtain ⟨D, hD⟩ : ∃ x, w5.heap.size = x := ⟨_, rfl⟩
  simp only [hD] at A4 ⊢
  have r0 := (A4).c0; have r1 := (A4).c1; have r2 := (A4).c2; have r3 := (A4).c3; have rf0 := (A4).f0; have rf1 := (A4).f1; have rf2 := (A4).f2; have rf3 := (A4).f3
  clear hb6 A4 hD e0 e1 e2 e3 e4 e5
  go_region
  all_goals go_wp2
  all_goals exact bodyPost_ret (v := .tuple #[.int .i64 a.v, .int .i64 a.t, .int .i64 a.ub, .int .i64 a.at_]) (by simp [results, Try.results13, go_sem]) rfl ⟨rfl, hb7.drew⟩
end Go.Proofs.Ytlhenpocaagbjaa.C

namespace Go.Proofs.Ytlhenpocaagbjaa.C
open Go.RowKit
set_option linter.unusedSimpArgs false
set_option linter.unusedVariables false
theorem xsC_at : ∀ (l : List Cv) (j : Nat) (x : Cv), l[j]? = some x → ∀ i v, (cdV x)[i]? = some v → (xsC l)[j * 7 + i]? = some v
  | [], j, x, h => by simp at h
  | u :: r, 0, x, h => by
    have : u = x := by simpa using h
    subst this
    intro i v hi
    have hl : i < (cdV u).length := (List.getElem?_eq_some_iff.1 hi).1
    rw [show xsC (u :: r) = cdV u ++ xsC r by simp [xsC], Nat.zero_mul, Nat.zero_add, List.getElem?_append_left hl]
    exact hi
  | u :: r, j + 1, x, h => by
    intro i v hi
    have ih := xsC_at r j x (by simpa using h) i v hi
    have hl : (cdV u).length = 7 := rfl
    rw [show xsC (u :: r) = cdV u ++ xsC r by simp [xsC], List.getElem?_append_right (by omega), hl, show (j + 1) * 7 + i - 7 = j * 7 + i by omega]
    exact ih
/-- A condition's node in memory. -/
structure BxC (W : World) (D o : Nat) (x : Cv) : Prop where
  lt : D < W.heap.size
  c0 : W.cell? ⟨D, o, none⟩ = some (.int .i64 x.c.k)
  c1 : W.cell? ⟨D, o + 1, none⟩ = some (.int .i64 x.c.rel)
  c2 : W.cell? ⟨D, o + 2, none⟩ = some (.slice x.ax x.c.x.length x.cx)
  c3 : W.cell? ⟨D, o + 3, none⟩ = some (.slice x.ay x.c.y.length x.cy)
  c4 : W.cell? ⟨D, o + 4, none⟩ = some (.int .i64 x.c.a)
  c5 : W.cell? ⟨D, o + 5, none⟩ = some (.int .i64 x.c.b)
  c6 : W.cell? ⟨D, o + 6, none⟩ = some (.int .i64 x.c.at_)
theorem BxC.below {W W' : World} {D o : Nat} {x : Cv} (h : BxC W D o x) (hb : Below W.heap.size W W') : BxC W' D o x :=
  ⟨Nat.lt_of_lt_of_le h.lt hb.size, (hb.cell (p := ⟨D, o, none⟩) h.lt).trans h.c0, (hb.cell (p := ⟨D, o + 1, none⟩) h.lt).trans h.c1, (hb.cell (p := ⟨D, o + 2, none⟩) h.lt).trans h.c2, (hb.cell (p := ⟨D, o + 3, none⟩) h.lt).trans h.c3, (hb.cell (p := ⟨D, o + 4, none⟩) h.lt).trans h.c4, (hb.cell (p := ⟨D, o + 5, none⟩) h.lt).trans h.c5, (hb.cell (p := ⟨D, o + 6, none⟩) h.lt).trans h.c6⟩
/-- A row of conditions' nodes that is read. -/
def CRd (w : World) (A : Option Addr) (l : List Cv) : Prop := l ≠ [] → ∃ g, A = some ⟨g, 0, none⟩ ∧ ∀ j x, l[j]? = some x → BxC w g (j * 7) x ∧ ER w x.ax x.c.x ∧ ER w x.ay x.c.y
theorem CRd.below {w w' : World} {A : Option Addr} {l : List Cv} (h : CRd w A l) (hb : Below w.heap.size w w') : CRd w' A l := fun hne => by
  obtain ⟨g, e, hc⟩ := h hne
  exact ⟨g, e, fun j x hj => ⟨(hc j x hj).1.below hb, (hc j x hj).2.1.below hb, (hc j x hj).2.2.below hb⟩⟩
theorem OC.rd {w : World} {B : Nat} {A : Option Addr} {l : List Cv} {c : Nat} (h : OC w B A l c) : CRd w A l := by
  intro hne
  have hh := h.own
  have hl : 0 < l.length := List.length_pos_iff.2 hne
  rcases h.own.2 with ⟨_, h2⟩ | ⟨g, cap, cur, e, hg, hc, hl2, hm, _⟩
  · omega
  · injection e with e1 e2 e3
    subst e1
    refine ⟨g, rfl, fun j x hj => ⟨?_, (h.ex x (List.mem_of_getElem? hj)).1.er, (h.ex x (List.mem_of_getElem? hj)).2.er⟩⟩
    have hjl : j < l.length := (List.getElem?_eq_some_iff.1 hj).1
    have key := xsC_at l j x hj
    refine ⟨(Array.getElem?_eq_some_iff.1 hc).1, ?_, ?_, ?_, ?_, ?_, ?_, ?_⟩
    · rw [hh.cellAt _ (by omega)]; exact key 0 _ rfl
    · rw [hh.cellAt _ (by omega)]; exact key 1 _ rfl
    · rw [hh.cellAt _ (by omega)]; exact key 2 _ rfl
    · rw [hh.cellAt _ (by omega)]; exact key 3 _ rfl
    · rw [hh.cellAt _ (by omega)]; exact key 4 _ rfl
    · rw [hh.cellAt _ (by omega)]; exact key 5 _ rfl
    · rw [hh.cellAt _ (by omega)]; exact key 6 _ rfl
def cd0 : Cd := ⟨0, 0, [], [], 0, 0, 0⟩
/-- What nodes answers of a text, ' == 0' behind it. -/
def NodesR (L : List UInt8) (x : List Ex) : Prop := ∃ R, CondR L R ∧ x = (if R.2.1 ≠ 0 ∨ R.1.length ≠ 1 then [] else (R.1.getD 0 cd0).x)
theorem NodesR.kids {L : List UInt8} {x : List Ex} (h : NodesR L x) : Kids x := by
  obtain ⟨R, h1, h2⟩ := h
  rw [h2]
  split
  · exact Kids.nil
  · rename_i hh
    have hl : R.1.length = 1 := Classical.byContradiction (fun x => hh (.inr x))
    have := h1.kids 0 (R.1.getD 0 cd0) (by simp [List.getD, hl])
    exact this.2.1
def eqB : ByteArray := ⟨#[32, 61, 61, 32, 48]⟩
def NodesPost (s : ByteArray) (w : World) (e : Ending) (w' : World) : Prop := ∃ x ax cx, NodesR (s ++ eqB).data.toList x ∧ e = .returned (.slice ax x.length cx) ∧ ER w' ax x ∧ Below w.heap.size w w'
set_option maxRecDepth 100000 in
set_option maxHeartbeats 6400000 in
theorem nodes_c (s : ByteArray) (w : World) (hs : s.size ≤ 4611686018427387000) : Calls Try.prog 9 #[.string s] w (NodesPost s w) := by
  have HC := r_cond_c (s ++ eqB) w (by rw [ByteArray.size_append]; have : eqB.size = 5 := rfl; omega)
  have hz : s.size + 5 ≤ 9223372036854775807 := by omega
  obtain ⟨L, hL⟩ : ∃ L, (s ++ eqB).data.toList = L := ⟨_, rfl⟩
  unfold NodesPost
  rw [hL] at HC ⊢
  have HC2 : Calls Try.prog 15 #[.string (s ++ ⟨#[32, 61, 61, 32, 48]⟩)] w (CondPost L w) := HC
  clear HC hL hs
  go_enter Try.func9, Try.ntmps9
  go_upto_region 2 with (go_at_call 15; refine HC2.mono ?_; rintro e w1 ⟨cv, A, c, E, P, h1, rfl, h3, h4⟩; have H := Lib.hid (And.intro h1 (And.intro h3.rd h4)); clear h1 h3 h4 HC2)
  by_cases hE : E = 0
  · by_cases hl : cv.length = 1
    · obtain ⟨v, hv⟩ : ∃ v, cv[0]? = some v := ⟨cv[0]'(by omega), by rw [List.getElem?_eq_getElem]⟩
      obtain ⟨g, hA, hg⟩ := H.out.2.1 (fun e => by rw [e] at hl; simp at hl)
      obtain ⟨B, E1, E2⟩ := hg 0 v hv
      have c2 : w1.cell? ⟨g, 2, none⟩ = some (.slice v.ax v.c.x.length v.cx) := B.c2
      have HX : Hid (NodesR L v.c.x) := Lib.hid ⟨_, H.out.1, by
        rw [if_neg (by
          intro x
          rcases x with x | x
          · exact x hE
          · exact x (by show (csOf cv).length = 1; rw [csOf_len]; exact hl))]
        show v.c.x = ((csOf cv).getD 0 cd0).x
        unfold csOf
        simp [List.getD, hv]⟩
      have HE1 := Lib.hid E1
      subst hE
      subst hA
      rw [hl]
      clear hv hl hg B E1 E2
      go_wp2_with fail
      go_ret
      exact ⟨v.c.x, v.ax, v.cx, HX.out, rfl, HE1.out, H.out.2.2⟩
    · have HX : Hid (NodesR L []) := Lib.hid ⟨_, H.out.1, by rw [if_pos (.inr (by show (csOf cv).length ≠ 1; rw [csOf_len]; exact hl))]⟩
      obtain ⟨n, hn⟩ : ∃ n, cv.length = n := ⟨_, rfl⟩
      rw [hn] at hl ⊢
      have g1 : ((n : Int) == 1) = false := by rw [beq_eq_false_iff_ne]; omega
      have g1' : ((n : Int) != 1) = true := by rw [bne, g1]; rfl
      have g2 : (n == 1) = false := by rw [beq_eq_false_iff_ne]; omega
      subst hE
      clear hn
      go_wp2_with fail
      go_ret
      exact ⟨[], none, 0, HX.out, rfl, fun h => absurd rfl h, H.out.2.2⟩
  · have HX : Hid (NodesR L []) := Lib.hid ⟨_, H.out.1, by rw [if_pos (.inl hE)]⟩
    have g1 : (E == 0) = false := by rw [beq_eq_false_iff_ne]; exact hE
    have g1' : (E != 0) = true := by rw [bne, g1]; rfl
    clear hE
    go_wp2_with fail
    go_ret
    exact ⟨[], none, 0, HX.out, rfl, fun h => absurd rfl h, H.out.2.2⟩
/-- The reader run with some fuel. -/
def runC (L : List UInt8) : Option (List Cd × Int × Int) :=
  if (lexR L).2.1 ≠ 0 then some ([], (lexR L).2.1, (lexR L).2.2)
  else (cF (lexR L).1 60 0 ⟨0, 0, 0, 0⟩ []).map (fun r => if (endP (lexR L).1 r.1).e ≠ 0 then ([], (endP (lexR L).1 r.1).e, (endP (lexR L).1 r.1).at_) else (r.2, 0, 0))
theorem runC_R {L : List UInt8} {R : List Cd × Int × Int} (h : runC L = some R) : CondR L R := by
  unfold runC at h
  by_cases h1 : (lexR L).2.1 ≠ 0
  · rw [if_pos h1] at h
    exact .inl ⟨h1, (Option.some.inj h).symm⟩
  · rw [if_neg h1] at h
    obtain ⟨r, hr, e⟩ := Option.map_eq_some_iff.1 h
    exact .inr ⟨Classical.byContradiction h1, r, ⟨60, hr⟩, e.symm⟩
def nodesX (L : List UInt8) : Option (List Ex) := (runC L).map (fun R => if R.2.1 ≠ 0 ∨ R.1.length ≠ 1 then [] else (R.1.getD 0 cd0).x)
theorem nodesX_R {L : List UInt8} {x y : List Ex} (h : nodesX L = some x) (hy : NodesR L y) : y = x := by
  unfold nodesX at h
  obtain ⟨R, hR, e⟩ := Option.map_eq_some_iff.1 h
  obtain ⟨R', h1, h2⟩ := hy
  rw [h2, h1.uniq (runC_R hR), e]
def noEnv : Env0 := ⟨false, fun _ _ => 0, []⟩
def noNV : NV := ⟨none, none, 0, 0⟩
theorem noNOK (fn : FuncId) (w : World) : NOK fn w noNV noEnv := ⟨.inl ⟨rfl, rfl⟩, by show (0 : Nat) ≤ 100000; omega, .inl ⟨rfl, rfl⟩⟩
def awB : ByteArray := ⟨#[49, 32, 43, 32, 50]⟩
theorem awake_x : nodesX (awB ++ eqB).data.toList = some [⟨1, 1, 5, [], -1, -1, 0⟩, ⟨1, 2, 5, [], -1, -1, 4⟩, ⟨8, 0, 0, [], 0, 1, 2⟩] := by kernel_rfl
theorem awake_v : vF [⟨1, 1, 5, [], -1, -1, 0⟩, ⟨1, 2, 5, [], -1, -1, 4⟩, ⟨8, 0, 0, [], 0, 1, 2⟩] noEnv 0 0 3 noEnv 2 = ⟨3, 5, 0, 0⟩ := by kernel_rfl
theorem num_c (e : Int) (w : World) : Calls Try.prog 18 #[.int .i64 e] w fun e' w' => e' = .returned (.int .i64 e) ∧ w = w' := by
  go_enter Try.func18, Try.ntmps18
  go_wp2
  go_ret
  exact ⟨rfl, rfl⟩
set_option maxRecDepth 100000 in
set_option maxHeartbeats 6400000 in
theorem awake8_c (w : World) : Calls Try.prog 8 #[] w fun e w' => e = .returned (.bool true) ∧ Below w.heap.size w w' := by
  have HN : Calls Try.prog 9 #[.string ⟨#[49, 32, 43, 32, 50]⟩] w fun e w' => ∃ ax cx, e = .returned (.slice ax 3 cx) ∧ (∀ W, Below w'.heap.size w' W → Calls Try.prog 12 #[.slice ax 3 cx, .int .i64 2, .agg #[.pointer none, .slice none 0 0, .pointer none, .slice none 0 0, .int .i64 0, .int .i64 0]] W fun e w'' => e = .returned (.tuple #[.int .i64 3, .int .i64 5, .int .i64 0, .int .i64 0]) ∧ Below W.heap.size W w'') ∧ Below w.heap.size w w' := by
    refine (nodes_c awB w (by decide)).mono ?_
    rintro e w' ⟨x, ax, cx, hx, rfl, hE, hb⟩
    have hk := hx.kids
    obtain rfl := nodesX_R awake_x hx
    refine ⟨ax, cx, rfl, fun W hb2 => ?_, hb⟩
    have := value_c _ hk ax cx noNV noNV noEnv noEnv 0 0 2 W (hE.below hb2) (noNOK _ _) (noNOK _ _)
    rw [show vF [⟨1, 1, 5, [], -1, -1, 0⟩, ⟨1, 2, 5, [], -1, -1, 4⟩, ⟨8, 0, 0, [], 0, 1, 2⟩] noEnv 0 0 (List.length [(⟨1, 1, 5, [], -1, -1, 0⟩ : Ex), ⟨1, 2, 5, [], -1, -1, 4⟩, ⟨8, 0, 0, [], 0, 1, 2⟩]) noEnv 2 = ⟨3, 5, 0, 0⟩ from awake_v] at this
    exact this
  go_enter Try.func8, Try.ntmps8
  go_wp2_with (first | (go_at_call 9; refine HN.mono ?_; rintro e w1 ⟨ax, cx, rfl, hv, hb1⟩; have HV := hv w1 (Below.refl _ _); have HB1 := Lib.hid hb1; clear hb1 hv HN) | (go_at_call 12; refine HV.mono ?_; rintro e w2 ⟨rfl, hb2⟩; have HB2 := Lib.hid (below_next HB1.out HB1.out.size hb2); clear hb2 HV) | (go_at_call 18; refine (num_c _ _).mono ?_; rintro e w' ⟨rfl, rfl⟩))
  go_ret
  exact ⟨rfl, HB2.out⟩
end Go.Proofs.Ytlhenpocaagbjaa.C

namespace Go.Proofs.Ytlhenpocaagbjaa.C
open Go.RowKit
set_option linter.unusedSimpArgs false
set_option linter.unusedVariables false
theorem tkP_out {ts : List Tok} {i : Nat} (h : ts.length ≤ i) : (tkP ts i).k = 0 := by
  unfold tkP
  rw [List.getD_eq_getElem?_getD, List.getElem?_eq_none h]
  rfl
theorem tk_in {ts : List Tok} {i : Nat} (h : (tkP ts i).k ≠ 0) : i < ts.length := by
  rcases Nat.lt_or_ge i ts.length with x | x
  · exact x
  · exact absurd (tkP_out x) h
theorem isP_in {ts : List Tok} {st : Rd} {W : List UInt8} (h : isP ts st W = true) : st.i < ts.length := by
  refine tk_in (fun e => ?_)
  unfold isP at h
  rw [e] at h
  simp at h
theorem pickP_in {ts : List Tok} {st : Rd} : ∀ {L : List (List UInt8 × Int)}, pickP ts st L ≠ 0 → st.i < ts.length
  | [], h => absurd rfl h
  | (w, k) :: r, h => by
    unfold pickP at h
    by_cases q : isP ts st w = true
    · exact isP_in q
    · rw [if_neg q] at h
      exact pickP_in h
theorem wantP_in {ts : List Tok} {st : Rd} {N : Nat} (W : List UInt8) (hN : ts.length ≤ N) (h : st.i ≤ N) : (wantP ts st W).i ≤ N := by
  unfold wantP
  by_cases q : isP ts st W = true
  · rw [if_pos q]
    have := isP_in q
    show st.i + 1 ≤ N
    omega
  · rw [if_neg q, (failP_same ts st 5).2]
    exact h
theorem openP_in {ts : List Tok} {st : Rd} {N : Nat} (W : List UInt8) (hN : ts.length ≤ N) (h : st.i ≤ N) : (openP ts st W).i ≤ N := by
  unfold openP
  simp only
  refine wantP_in W hN ?_
  split
  · rw [(failP_same ts st 6).2]; exact h
  · exact h
/-- What is true of what the reader leaves. -/
def PLen (N : Nat) (st : Rd) (l : List Ex) (r : Rd × List Ex) : Prop := r.1.i ≤ N ∧ st.i ≤ r.1.i ∧ r.2.length + st.i ≤ l.length + r.1.i + e1P r.1 ∧ (st.e ≠ 0 → r = (st, l))
theorem e1P_le (st : Rd) : e1P st ≤ 1 := by unfold e1P; split <;> omega
theorem PLen.opened {ts : List Tok} {N : Nat} {st : Rd} {l : List Ex} {r : Rd × List Ex} (W : List UInt8) (h0 : st.e = 0) (h : PLen N (openP ts st W) l r) : r.1.i ≤ N ∧ st.i ≤ r.1.i ∧ r.2.length + st.i + 1 ≤ l.length + r.1.i + e1P r.1 := by
  obtain ⟨a, b, c, d⟩ := h
  rcases (openP_facts ts st W h0).2 with ⟨x, y⟩ | ⟨x, y⟩
  · exact ⟨a, by omega, by omega⟩
  · have := d y
    rw [this] at a b c ⊢
    simp only at a b c ⊢
    have e1 := e1P_1 y
    exact ⟨a, by omega, by omega⟩
theorem pF_len (ts : List Tok) (N : Nat) (hN : ts.length ≤ N) : ∀ (f m : Nat) (st : Rd) (l : List Ex) (r : Rd × List Ex), pF ts f m st l = some r → st.i ≤ N → PLen N st l r := by
  intro f
  induction f with
  | zero => intro m st l r h; cases h
  | succ f ih =>
    intro m st l r h hi
    rw [pF] at h
    by_cases h1 : m < 4
    · rw [if_pos h1] at h
      obtain ⟨q, hq, e⟩ := Option.bind_eq_some_iff.1 h
      obtain ⟨a1, a2, a3, a4⟩ := ih _ _ _ _ hq hi
      obtain ⟨b1, b2, b3, b4⟩ := ih _ _ _ _ e a1
      refine ⟨b1, by omega, ?_, fun he => ?_⟩
      · by_cases hq0 : q.1.e = 0
        · have := e1P_0 hq0; omega
        · rw [b4 hq0]; exact a3
      · have := a4 he
        rw [this] at b4
        exact b4 he
    rw [if_neg h1] at h
    by_cases h2 : 4 < m
    · rw [if_pos h2] at h
      by_cases h3 : st.e ≠ 0
      · rw [if_pos h3] at h; cases h
        exact ⟨hi, Nat.le_refl _, by show l.length + st.i ≤ l.length + st.i + e1P st; omega, fun _ => rfl⟩
      rw [if_neg h3] at h
      by_cases h4 : pickP ts st (levelP (m - 5)) = 0
      · rw [if_pos h4] at h; cases h
        exact ⟨hi, Nat.le_refl _, by show l.length + st.i ≤ l.length + st.i + e1P st; omega, fun _ => rfl⟩
      rw [if_neg h4] at h
      have hin := pickP_in h4
      obtain ⟨q, hq, e⟩ := Option.bind_eq_some_iff.1 h
      obtain ⟨a1, a2, a3, a4⟩ := ih _ _ _ _ hq (by show st.i + 1 ≤ N; omega)
      obtain ⟨b1, b2, b3, b4⟩ := ih _ _ _ _ e a1
      simp only at a2 a3
      rw [List.length_append] at b3
      have hone : ∀ X : Ex, [X].length = 1 := fun _ => rfl
      rw [hone] at b3
      refine ⟨b1, by omega, ?_, fun he => absurd he h3⟩
      by_cases hq0 : q.1.e = 0
      · have := e1P_0 hq0; omega
      · rw [b4 hq0]
        show (q.2 ++ [_]).length + st.i ≤ l.length + q.1.i + e1P q.1
        rw [List.length_append, hone]
        omega
    rw [if_neg h2] at h
    by_cases h3 : st.e ≠ 0
    · rw [if_pos h3] at h; cases h
      exact ⟨hi, Nat.le_refl _, by show l.length + st.i ≤ l.length + st.i + e1P st; omega, fun _ => rfl⟩
    rw [if_neg h3] at h
    have h0 : st.e = 0 := Classical.byContradiction h3
    have no : ∀ {P : Prop}, (st.e ≠ 0 → P) := fun he => absurd he h3
    have hone : ∀ X : Ex, [X].length = 1 := fun _ => rfl
    simp only at h
    by_cases c0 : isP ts st [45] = true ∨ isP ts st [126] = true
    · rw [if_pos c0] at h
      obtain ⟨q, hq, e⟩ := Option.bind_eq_some_iff.1 h
      obtain ⟨a1, a2, a3⟩ := (ih _ _ _ _ hq (openP_in _ hN hi)).opened _ h0
      cases e
      exact ⟨a1, a2, by show (q.2 ++ [_]).length + st.i ≤ l.length + q.1.i + e1P q.1; rw [List.length_append, hone]; omega, no⟩
    rw [if_neg c0] at h
    have fin : ∀ {s : Rd} {o w : List UInt8} {q : Rd × List Ex} {l2 : List Ex} {d : Nat}, s.e = 0 → st.i ≤ s.i → s.i ≤ N → PLen N (openP ts s o) l q → l2.length = q.2.length + d → d + st.i ≤ s.i + 1 → PLen N st l (upP (wantP ts q.1 w), l2) := by
      intro s o w q l2 d hs0 hsi hsN hq hl2 hd
      obtain ⟨a1, a2, a3⟩ := hq.opened _ hs0
      have w1 := wantP_sum ts q.1 w
      have w2 := (wantP_facts ts q.1 w).2.1
      exact ⟨wantP_in w hN a1, by show st.i ≤ (wantP ts q.1 w).i; omega, by show l2.length + st.i ≤ l.length + (wantP ts q.1 w).i + e1P (wantP ts q.1 w); omega, no⟩
    by_cases c1 : isP ts st [40] = true
    · rw [if_pos c1] at h
      obtain ⟨q, hq, e⟩ := Option.bind_eq_some_iff.1 h
      cases e
      exact fin (d := 0) h0 (Nat.le_refl _) hi (ih _ _ _ _ hq (openP_in _ hN hi)) rfl (by omega)
    rw [if_neg c1] at h
    have stop : ∀ {X : Ex}, (tkP ts st.i).k ≠ 0 → PLen N st l ({ st with i := st.i + 1 }, l ++ [X]) := by
      intro X hk
      have := tk_in hk
      exact ⟨by show st.i + 1 ≤ N; omega, by show st.i ≤ st.i + 1; omega, by show (l ++ [X]).length + st.i ≤ l.length + (st.i + 1) + _; rw [List.length_append, hone]; omega, no⟩
    have inn : ∀ {o w : List UInt8} {q : Rd × List Ex} {X : Ex}, (tkP ts st.i).k ≠ 0 → pF ts f 0 (openP ts { st with i := st.i + 1 } o) l = some q → PLen N st l (upP (wantP ts q.1 w), q.2 ++ [X]) := by
      intro o w q X hk hq
      have hin := tk_in hk
      have hN1 : ({ st with i := st.i + 1 } : Rd).i ≤ N := by show st.i + 1 ≤ N; omega
      exact fin (s := { st with i := st.i + 1 }) (d := 1) h0 (by show st.i ≤ st.i + 1; omega) hN1 (ih _ _ _ _ hq (openP_in _ hN hN1)) (by rw [List.length_append, hone]) (by show 1 + st.i ≤ st.i + 1 + 1; omega)
    by_cases c2 : (tkP ts st.i).k = 2
    · rw [if_pos c2] at h
      cases h
      exact stop (by omega)
    rw [if_neg c2] at h
    by_cases c3 : (tkP ts st.i).k = 1
    · rw [if_pos c3] at h
      by_cases d : isP ts { st with i := st.i + 1 } [91] = true
      · rw [if_pos d] at h
        obtain ⟨q, hq, e⟩ := Option.bind_eq_some_iff.1 h
        cases e
        exact inn (by omega) hq
      · rw [if_neg d] at h
        cases h
        exact stop (by omega)
    rw [if_neg c3] at h
    have isk : ∀ {W}, isP ts st W = true → (tkP ts st.i).k ≠ 0 := fun {W} hq e => by
      unfold isP at hq
      rw [e] at hq
      simp at hq
    by_cases c4 : isP ts st [111, 108, 100] = true
    · rw [if_pos c4] at h
      obtain ⟨q, hq, e⟩ := Option.bind_eq_some_iff.1 h
      cases e
      exact inn (isk c4) hq
    rw [if_neg c4] at h
    by_cases c5 : isP ts st [114, 101, 115, 117, 108, 116] = true
    · rw [if_pos c5] at h
      cases h
      exact stop (isk c5)
    rw [if_neg c5] at h
    by_cases c6 : (tkP ts st.i).k = 3 ∧ 0 < readTL (tkP ts st.i).t
    · rw [if_pos c6] at h
      obtain ⟨q, hq, e⟩ := Option.bind_eq_some_iff.1 h
      cases e
      exact inn (by have := c6.1; omega) hq
    rw [if_neg c6] at h
    cases h
    exact ⟨by rw [(failP_same ts st 5).2]; exact hi, by rw [(failP_same ts st 5).2]; exact Nat.le_refl _, by show l.length + st.i ≤ l.length + (failP ts st 5).i + e1P (failP ts st 5); rw [(failP_same ts st 5).2]; omega, no⟩
/-- The rows of nodes of conditions are short, and so are the rows of conditions. -/
def CLen (N : Nat) (l : List Cd) : Prop := ∀ v ∈ l, v.x.length ≤ N + 1 ∧ v.y.length ≤ N + 1
theorem CLen.snoc {N : Nat} {l : List Cd} {X : Cd} (h : CLen N l) (hx : X.x.length ≤ N + 1) (hy : X.y.length ≤ N + 1) : CLen N (l ++ [X]) := fun v hv => by
  rw [List.mem_append, List.mem_singleton] at hv
  rcases hv with hv | rfl
  · exact h v hv
  · exact ⟨hx, hy⟩
theorem cF_len (ts : List Tok) (N : Nat) (hN : ts.length ≤ N) : ∀ (f m : Nat) (st : Rd) (l : List Cd) (r : Rd × List Cd), cF ts f m st l = some r → st.i ≤ N → CLen N l → r.1.i ≤ N ∧ CLen N r.2 := by
  intro f
  induction f with
  | zero => intro m st l r h; cases h
  | succ f ih =>
    intro m st l r h hi hl
    have two : ∀ {m1 m2 st1}, ((cF ts f m1 st1 l).bind fun r => cF ts f m2 r.1 r.2) = some r → st1.i ≤ N → r.1.i ≤ N ∧ CLen N r.2 := by
      intro m1 m2 st1 he h1
      obtain ⟨q, hq, e⟩ := Option.bind_eq_some_iff.1 he
      obtain ⟨a1, a2⟩ := ih _ _ _ _ hq h1 hl
      exact ih _ _ _ _ e a1 a2
    have on : ∀ {m1 m2 st1} {k at_ : Int}, ((cF ts f m1 st1 l).bind fun r => cF ts f m2 r.1 (r.2 ++ [cdP k ((l.length : Int) - 1) ((r.2.length : Int) - 1) at_])) = some r → st1.i ≤ N → r.1.i ≤ N ∧ CLen N r.2 := by
      intro m1 m2 st1 k at_ he h1
      obtain ⟨q, hq, e⟩ := Option.bind_eq_some_iff.1 he
      obtain ⟨a1, a2⟩ := ih _ _ _ _ hq h1 hl
      exact ih _ _ _ _ e a1 (a2.snoc (Nat.zero_le _) (Nat.zero_le _))
    rw [cF] at h
    by_cases m0 : m = 0
    · rw [if_pos m0] at h
      exact two h hi
    rw [if_neg m0] at h
    by_cases m1 : m = 1
    · rw [if_pos m1] at h
      exact two h hi
    rw [if_neg m1] at h
    by_cases m3 : m = 3
    · rw [if_pos m3] at h
      by_cases q : isP ts st [111, 114] = true
      · rw [if_pos q] at h
        exact on h (by have := isP_in q; show st.i + 1 ≤ N; omega)
      · rw [if_neg q] at h
        cases h
        exact ⟨hi, hl⟩
    rw [if_neg m3] at h
    by_cases m4 : m = 4
    · rw [if_pos m4] at h
      by_cases q : isP ts st [97, 110, 100] = true
      · rw [if_pos q] at h
        exact on h (by have := isP_in q; show st.i + 1 ≤ N; omega)
      · rw [if_neg q] at h
        cases h
        exact ⟨hi, hl⟩
    rw [if_neg m4] at h
    by_cases h0 : st.e ≠ 0
    · rw [if_pos h0] at h
      cases h
      exact ⟨hi, hl⟩
    rw [if_neg h0] at h
    by_cases q1 : isP ts st [110, 111, 116] = true
    · rw [if_pos q1] at h
      obtain ⟨q, hq, e⟩ := Option.bind_eq_some_iff.1 h
      obtain ⟨a1, a2⟩ := ih _ _ _ _ hq (openP_in _ hN hi) hl
      cases e
      exact ⟨a1, a2.snoc (Nat.zero_le _) (Nat.zero_le _)⟩
    rw [if_neg q1] at h
    by_cases q2 : isP ts st [91] = true
    · rw [if_pos q2] at h
      obtain ⟨q, hq, e⟩ := Option.bind_eq_some_iff.1 h
      obtain ⟨a1, a2⟩ := ih _ _ _ _ hq (openP_in _ hN hi) hl
      cases e
      exact ⟨wantP_in _ hN a1, a2⟩
    rw [if_neg q2] at h
    obtain ⟨x, hx, e⟩ := Option.bind_eq_some_iff.1 h
    obtain ⟨a1, a2, a3, a4⟩ := pF_len ts N hN _ _ _ _ _ hx hi
    have ae := e1P_le x.1
    have hz : ([] : List Ex).length = 0 := rfl
    rw [hz] at a3
    by_cases q3 : relP ts x.1 = true
    · rw [if_pos q3] at e
      obtain ⟨y, hy, e⟩ := Option.bind_eq_some_iff.1 e
      have hk : (tkP ts x.1.i).k ≠ 0 := fun e => by
        unfold relP at q3
        rw [e] at q3
        simp at q3
      have hin := tk_in hk
      obtain ⟨b1, b2, b3, b4⟩ := pF_len ts N hN _ _ _ _ _ hy (by show x.1.i + 1 ≤ N; omega)
      have be := e1P_le y.1
      rw [hz] at b3
      simp only at b3
      cases e
      exact ⟨b1, hl.snoc (by show x.2.length ≤ N + 1; omega) (by show y.2.length ≤ N + 1; omega)⟩
    · rw [if_neg q3] at e
      cases e
      exact ⟨by rw [(failP_same ts x.1 5).2]; exact a1, hl⟩
theorem CondR.len {L : List UInt8} {R : List Cd × Int × Int} (h : CondR L R) : CLen 8193 R.1 := by
  have hnil : CLen 8193 [] := fun v hv => by simp at hv
  rcases h with ⟨h1, h2⟩ | ⟨h1, r, ⟨f, hf⟩, h3⟩
  · rw [h2]; exact hnil
  · rw [h3]
    split
    · exact hnil
    · exact (cF_len _ 8193 (lexR_facts h1).2.1 f 0 _ [] r hf (Nat.zero_le _) hnil).2
theorem NodesR.len {L : List UInt8} {x : List Ex} (h : NodesR L x) : x.length ≤ 8194 := by
  obtain ⟨R, h1, h2⟩ := h
  rw [h2]
  split
  · exact Nat.zero_le _
  · rename_i hh
    have hl : R.1.length = 1 := Classical.byContradiction (fun x => hh (.inr x))
    have hm : R.1.getD 0 cd0 ∈ R.1 := by
      rw [List.getD_eq_getElem?_getD, List.getElem?_eq_getElem (by omega)]
      exact List.getElem_mem _
    exact (h1.len _ hm).1
end Go.Proofs.Ytlhenpocaagbjaa.C

