/- Whether any condition holds, or what is undefined in it, where, is the document's: eval.Test and the reference's Test answer alike at every node of every condition. For every text, row of numbers and result. -/
import Derived.Test.YtlhenpocaagbjaaGE
import Derived.Test.YtlhenpocaagbjaaGM
import Derived.Test.YtlhenpocaagbjaaRows
import Derived.WalkKit
import Derived.ProofKit
import Derived.OpenShut
import Derived.ShutString
import Derived.ChangeOld
import Derived.Below
import Derived.SizedLaws
namespace Go.Proofs.Ytlhenpocaagbjaa.C
open Go.RowKit
set_option linter.unusedSimpArgs false
set_option linter.unusedVariables false
/-- Whether a node of a condition holds, with fuel: yes or no, undefined, where. -/
def relT (old : Env0) (res t : Int) (now : Env0) (c : Cd) : Bool × Int × Int :=
  let a := vF c.x old res t c.x.length now ((c.x.length : Int) - 1)
  let b := vF c.y old res t c.y.length now ((c.y.length : Int) - 1)
  if a.ub = 0 then (if b.ub = 0 then (relI c.rel (wrapT (mixT 8 a.t b.t) a.v) (wrapT (mixT 8 a.t b.t) b.v), 0, 0) else (false, b.ub, b.at_)) else (false, a.ub, a.at_)
def tF (l : List Cd) (old : Env0) (res t : Int) (now : Env0) : Nat → Int → Bool × Int × Int
  | 0, _ => (false, 0, 0)
  | f + 1, at_ =>
    if at_ < 0 ∨ (l.length : Int) ≤ at_ then (false, 0, 0)
    else
      let c := l.getD at_.toNat cd0
      if c.k = 1 then relT old res t now c
      else if c.k = 2 then (!(tF l old res t now f c.a).1 && decide ((tF l old res t now f c.a).2.1 = 0), (tF l old res t now f c.a).2.1, (tF l old res t now f c.a).2.2)
      else if c.k = 3 then (if (tF l old res t now f c.a).1 = true then tF l old res t now f c.b else (false, (tF l old res t now f c.a).2.1, (tF l old res t now f c.a).2.2))
      else if c.k = 4 then (if (tF l old res t now f c.a).1 = true then (true, (tF l old res t now f c.a).2.1, (tF l old res t now f c.a).2.2) else if (tF l old res t now f c.a).2.1 = 0 then tF l old res t now f c.b else (false, (tF l old res t now f c.a).2.1, (tF l old res t now f c.a).2.2))
      else (false, 0, 0)
/-- What is undefined does not hold. -/
theorem tF_ub (l : List Cd) (old : Env0) (res t : Int) (now : Env0) : ∀ (f : Nat) (at_ : Int), (tF l old res t now f at_).2.1 ≠ 0 → (tF l old res t now f at_).1 = false := by
  intro f
  induction f with
  | zero => intro at_ h; exact absurd rfl h
  | succ f ih =>
    intro at_ h
    rw [tF] at h ⊢
    by_cases h1 : at_ < 0 ∨ (l.length : Int) ≤ at_
    · rw [if_pos h1]
    · rw [if_neg h1] at h ⊢
      simp only at h ⊢
      obtain ⟨c, hc⟩ : ∃ c, l.getD at_.toNat cd0 = c := ⟨_, rfl⟩
      rw [hc] at h ⊢
      by_cases k1 : c.k = 1
      · rw [if_pos k1] at h ⊢
        unfold relT at h ⊢
        simp only at h ⊢
        split at h
        · rename_i q1
          split at h
          · exact absurd rfl h
          · rename_i q2
            rw [if_pos q1, if_neg q2]
        · rename_i q1
          rw [if_neg q1]
      rw [if_neg k1] at h ⊢
      by_cases k2 : c.k = 2
      · rw [if_pos k2] at h ⊢
        simp only at h ⊢
        rw [decide_eq_false h, Bool.and_false]
      rw [if_neg k2] at h ⊢
      by_cases k3 : c.k = 3
      · rw [if_pos k3] at h ⊢
        by_cases q : (tF l old res t now f c.a).1 = true
        · rw [if_pos q] at h ⊢
          exact ih _ h
        · rw [if_neg q]
      rw [if_neg k3] at h ⊢
      by_cases k4 : c.k = 4
      · rw [if_pos k4] at h ⊢
        by_cases q : (tF l old res t now f c.a).1 = true
        · rw [if_pos q] at h
          simp only at h
          have := ih _ h
          rw [q] at this
          cases this
        · rw [if_neg q] at h ⊢
          by_cases q2 : (tF l old res t now f c.a).2.1 = 0
          · rw [if_pos q2] at h ⊢
            exact ih _ h
          · rw [if_neg q2]
      rw [if_neg k4]
theorem BxC.box1 {W : World} {D : Nat} {x : Cv} (h : BxC W D 0 x) : W.cell? ⟨D, 1, none⟩ = some (.int .i64 x.c.rel) := h.c1
theorem BxC.box2 {W : World} {D : Nat} {x : Cv} (h : BxC W D 0 x) : W.cell? ⟨D, 2, none⟩ = some (.slice x.ax x.c.x.length x.cx) := h.c2
theorem BxC.box3 {W : World} {D : Nat} {x : Cv} (h : BxC W D 0 x) : W.cell? ⟨D, 3, none⟩ = some (.slice x.ay x.c.y.length x.cy) := h.c3
theorem BxC.box4 {W : World} {D : Nat} {x : Cv} (h : BxC W D 0 x) : W.cell? ⟨D, 4, none⟩ = some (.int .i64 x.c.a) := h.c4
theorem BxC.box5 {W : World} {D : Nat} {x : Cv} (h : BxC W D 0 x) : W.cell? ⟨D, 5, none⟩ = some (.int .i64 x.c.b) := h.c5
theorem BxC.box6 {W : World} {D : Nat} {x : Cv} (h : BxC W D 0 x) : W.cell? ⟨D, 6, none⟩ = some (.int .i64 x.c.at_) := h.c6
/-- Inside Test. -/
structure TsI (w W : World) (x : Cv) (v o : NV) (res t : Int) : Prop where
  hb : Below w.heap.size w W
  b6 : Bx6 W w.heap.size v o res t
  bc : BxC W (w.heap.size + 1) 0 x
theorem TsI.below {w W W' : World} {x : Cv} {v o : NV} {res t : Int} (h : TsI w W x v o res t) (hb : Below W.heap.size W W') : TsI w W' x v o res t := ⟨below_next h.hb h.hb.size hb, h.b6.below hb, h.bc.below hb⟩
set_option maxRecDepth 100000 in
set_option maxHeartbeats 6400000 in
theorem ts_rel1 (x : Cv) (v o : NV) (res t : Int) (g len cc j : Nat) (w : World) (hj : j < len) (hE : BxC w g (j * 7) x) (hk : x.c.k = 1) (lx ly : Nat) (hlx : x.c.x.length = lx) (hly : x.c.y.length = ly) (hx3 : lx ≤ 300000) (hy3 : ly ≤ 300000) (a b : Gt) (HA : ∀ W, Below w.heap.size w W → Calls Try.prog 24 #[.slice x.ax lx x.cx, .int .i64 ((lx : Int) - 1), envA v o res t] W fun e' w' => e' = .returned (gtV a) ∧ Below W.heap.size W w') (HB : ∀ W, Below w.heap.size w W → Calls Try.prog 24 #[.slice x.ay ly x.cy, .int .i64 ((ly : Int) - 1), envA v o res t] W fun e' w' => e' = .returned (gtV b) ∧ Below W.heap.size W w') (hu : a.ub ≠ 0) :
    Calls Try.prog 16 #[.slice (some ⟨g, 0, none⟩) len cc, .int .i64 (j : Int), envA v o res t] w fun e' w' => e' = .returned (.tuple #[.bool false, .int .i64 a.ub, .int .i64 a.at_]) ∧ Below w.heap.size w w' := by
  have HK : Hid (x.c.k = 1) := Lib.hid hk
  clear hk
  have ex1 : IntKind.i64.wrap ((lx : Int) - 1) = (lx : Int) - 1 := IntWalk.i64_in _ (by omega)
  have ey1 : IntKind.i64.wrap ((ly : Int) - 1) = (ly : Int) - 1 := IntWalk.i64_in _ (by omega)
  have HLX := Lib.hid (And.intro hlx hly)
  clear hlx hly
  unfold envA gtV at HA HB
  have u0 : (a.ub == 0) = false := by rw [beq_eq_false_iff_ne]; exact hu
  have u1 : (a.ub != 0) = true := by rw [bne, u0]; rfl
  clear hu
  obtain ⟨mp, ba, bl, bc⟩ := v
  unfold envA
  simp only at HA HB
  have HE := Lib.hid hE
  have m0 := hE.c0
  have m1 := hE.c1
  have m2 := hE.c2
  have m3 := hE.c3
  have m4 := hE.c4
  have m5 := hE.c5
  have m6 := hE.c6
  have hj0 : (0 : Int) ≤ (j : Int) := by omega
  have hj1 : (j : Int) < (len : Int) := by omega
  have hg0 : g ≠ w.heap.size := by have := hE.lt; omega
  clear hE
  simp only
  go_enter Try.func16, Try.ntmps16
  go_upto_region 1 with fail
  refine at_world (fun W => Below w.heap.size w W ∧ W.heap.size = w.heap.size + 1 ∧ Bx6 W w.heap.size ⟨mp, ba, bl, bc⟩ o res t ∧ BxC W g (j * 7) x) ⟨(by repeat' (first | exact Below.refl _ _ | (refine Below.alloc ?_ ?_ _) | (refine Below.setCell ?_ ?_ _) | (refine Below.drew ?_) | (refine below_next ?_ ?_ (by assumption)) | omega | (simp; done) | (simp; omega))), by simp, ⟨by first | (simp; done) | (simp; omega), by simp [go_sem], by simp [go_sem], by simp [go_sem], by simp [go_sem], by simp [go_sem], by simp [go_sem]⟩, HE.out.below (by repeat' (first | exact Below.refl _ _ | (refine Below.alloc ?_ ?_ _) | (refine Below.setCell ?_ ?_ _) | (refine Below.drew ?_) | (refine below_next ?_ ?_ (by assumption)) | omega | (simp; done) | (simp; omega)))⟩ ?_
  rintro W0 ⟨hb0, hz0, B6, BE⟩
  clear m0 m1 m2 m3 m4 m5 m6
  have m0 := BE.c0
  have m1 := BE.c1
  have m2 := BE.c2
  have m3 := BE.c3
  have m4 := BE.c4
  have m5 := BE.c5
  have m6 := BE.c6
  go_upto_region 4 with fail
  refine at_world (fun W => TsI w W x ⟨mp, ba, bl, bc⟩ o res t) ⟨below_next hb0 hb0.size (by repeat' (first | exact Below.refl _ _ | (refine Below.alloc ?_ ?_ _) | (refine Below.setCell ?_ ?_ _) | (refine Below.drew ?_) | (refine below_next ?_ ?_ (by assumption)) | omega | (simp; done) | (simp; omega))), B6.below (by repeat' (first | exact Below.refl _ _ | (refine Below.alloc ?_ ?_ _) | (refine Below.setCell ?_ ?_ _) | (refine Below.drew ?_) | (refine below_next ?_ ?_ (by assumption)) | omega | (simp; done) | (simp; omega))), by rw [← hz0]; exact ⟨by first | (simp; done) | (simp; omega), by simp [go_sem], by simp [go_sem], by simp [go_sem], by simp [go_sem], by simp [go_sem], by simp [go_sem], by simp [go_sem]⟩⟩ ?_
  intro W1 N1
  (try simp only [hz0])
  clear m0 m1 m2 m3 m4 m5 m6 hb0 hz0 B6 BE
  have N := Lib.hid N1
  have n0 := (N1.bc).c0; have n1 := (N1.bc).box1; have n2 := (N1.bc).box2; have n3 := (N1.bc).box3; have n4 := (N1.bc).box4; have n5 := (N1.bc).box5; have n6 := (N1.bc).box6; have e0 := (N1.b6).c0; have e1 := (N1.b6).c1; have e2 := (N1.b6).c2; have e3 := (N1.b6).c3; have e4 := (N1.b6).c4; have e5 := (N1.b6).c5
  clear N1
  rw [HK.out] at n0
  rw [HLX.out.1] at n2
  rw [HLX.out.2] at n3
  go_upto_region 10 with (go_at_call 24; refine (HA _ N.out.hb).mono ?_; rintro e' w5 ⟨rfl, hb5⟩; have N := Lib.hid (N.out.below hb5); clear hb5 HA)
  refine at_world (fun W => TsI w W x ⟨mp, ba, bl, bc⟩ o res t ∧ Bx4 W w5.heap.size a) ⟨N.out.below (by repeat' (first | exact Below.refl _ _ | (refine Below.alloc ?_ ?_ _) | (refine Below.setCell ?_ ?_ _) | (refine Below.drew ?_) | (refine below_next ?_ ?_ (by assumption)) | omega | (simp; done) | (simp; omega))), ⟨by first | (simp; done) | (simp; omega), by simp [go_sem], by simp [go_sem], by simp [go_sem], by simp [go_sem], by simp [go_sem], by simp [go_sem], by simp [go_sem], by simp [go_sem]⟩⟩ ?_
  rintro W6 ⟨N6, A6⟩
  obtain ⟨D3, hD3⟩ : ∃ x, w5.heap.size = x := ⟨_, rfl⟩
  simp only [hD3] at A6 ⊢
  clear hD3 N n0 n1 n2 n3 n4 n5 n6 e0 e1 e2 e3 e4 e5
  have N := Lib.hid N6
  have AA := Lib.hid A6
  have n0 := (N6.bc).c0; have n1 := (N6.bc).box1; have n2 := (N6.bc).box2; have n3 := (N6.bc).box3; have n4 := (N6.bc).box4; have n5 := (N6.bc).box5; have n6 := (N6.bc).box6; have e0 := (N6.b6).c0; have e1 := (N6.b6).c1; have e2 := (N6.b6).c2; have e3 := (N6.b6).c3; have e4 := (N6.b6).c4; have e5 := (N6.b6).c5
  have x0 := (A6).c0; have x1 := (A6).c1; have x2 := (A6).c2; have x3 := (A6).c3; have xf0 := (A6).f0; have xf1 := (A6).f1; have xf2 := (A6).f2; have xf3 := (A6).f3
  clear N6 A6
  rw [HK.out] at n0
  rw [HLX.out.1] at n2
  rw [HLX.out.2] at n3
  go_upto_region 11 with fail
  have d0 := fun (x' : WIn (Below W6.heap.size W6)) => cell_later x'.h x2
  have d1 := fun (x' : WIn (Below W6.heap.size W6)) => cell_later x'.h x3
  refine region_in (Below W6.heap.size W6) (by kernel_rfl) (by kernel_rfl) (Below.refl _ _).drew (fun inst => ?_)
  iterate 7 (go_big_quiet_step (fail))
  refine wpQuiet_nil ?_
  intro wd hbd
  have hbz := below_next N.out.hb N.out.hb.size hbd
  go_wp2_with fail
  go_ret3
  exact ⟨rfl, hbz⟩
set_option maxRecDepth 100000 in
set_option maxHeartbeats 6400000 in
theorem ts_rel2 (x : Cv) (v o : NV) (res t : Int) (g len cc j : Nat) (w : World) (hj : j < len) (hE : BxC w g (j * 7) x) (hk : x.c.k = 1) (lx ly : Nat) (hlx : x.c.x.length = lx) (hly : x.c.y.length = ly) (hx3 : lx ≤ 300000) (hy3 : ly ≤ 300000) (a b : Gt) (HA : ∀ W, Below w.heap.size w W → Calls Try.prog 24 #[.slice x.ax lx x.cx, .int .i64 ((lx : Int) - 1), envA v o res t] W fun e' w' => e' = .returned (gtV a) ∧ Below W.heap.size W w') (HB : ∀ W, Below w.heap.size w W → Calls Try.prog 24 #[.slice x.ay ly x.cy, .int .i64 ((ly : Int) - 1), envA v o res t] W fun e' w' => e' = .returned (gtV b) ∧ Below W.heap.size W w') (hz : a.ub = 0) (hu : b.ub ≠ 0) :
    Calls Try.prog 16 #[.slice (some ⟨g, 0, none⟩) len cc, .int .i64 (j : Int), envA v o res t] w fun e' w' => e' = .returned (.tuple #[.bool false, .int .i64 b.ub, .int .i64 b.at_]) ∧ Below w.heap.size w w' := by
  have HK : Hid (x.c.k = 1) := Lib.hid hk
  clear hk
  have ex1 : IntKind.i64.wrap ((lx : Int) - 1) = (lx : Int) - 1 := IntWalk.i64_in _ (by omega)
  have ey1 : IntKind.i64.wrap ((ly : Int) - 1) = (ly : Int) - 1 := IntWalk.i64_in _ (by omega)
  have HLX := Lib.hid (And.intro hlx hly)
  clear hlx hly
  unfold envA gtV at HA HB
  have u0 : (b.ub == 0) = false := by rw [beq_eq_false_iff_ne]; exact hu
  have u1 : (b.ub != 0) = true := by rw [bne, u0]; rfl
  clear hu
  have HZ := Lib.hid hz
  clear hz
  obtain ⟨mp, ba, bl, bc⟩ := v
  unfold envA
  simp only at HA HB
  have HE := Lib.hid hE
  have m0 := hE.c0
  have m1 := hE.c1
  have m2 := hE.c2
  have m3 := hE.c3
  have m4 := hE.c4
  have m5 := hE.c5
  have m6 := hE.c6
  have hj0 : (0 : Int) ≤ (j : Int) := by omega
  have hj1 : (j : Int) < (len : Int) := by omega
  have hg0 : g ≠ w.heap.size := by have := hE.lt; omega
  clear hE
  simp only
  go_enter Try.func16, Try.ntmps16
  go_upto_region 1 with fail
  refine at_world (fun W => Below w.heap.size w W ∧ W.heap.size = w.heap.size + 1 ∧ Bx6 W w.heap.size ⟨mp, ba, bl, bc⟩ o res t ∧ BxC W g (j * 7) x) ⟨(by repeat' (first | exact Below.refl _ _ | (refine Below.alloc ?_ ?_ _) | (refine Below.setCell ?_ ?_ _) | (refine Below.drew ?_) | (refine below_next ?_ ?_ (by assumption)) | omega | (simp; done) | (simp; omega))), by simp, ⟨by first | (simp; done) | (simp; omega), by simp [go_sem], by simp [go_sem], by simp [go_sem], by simp [go_sem], by simp [go_sem], by simp [go_sem]⟩, HE.out.below (by repeat' (first | exact Below.refl _ _ | (refine Below.alloc ?_ ?_ _) | (refine Below.setCell ?_ ?_ _) | (refine Below.drew ?_) | (refine below_next ?_ ?_ (by assumption)) | omega | (simp; done) | (simp; omega)))⟩ ?_
  rintro W0 ⟨hb0, hz0, B6, BE⟩
  clear m0 m1 m2 m3 m4 m5 m6
  have m0 := BE.c0
  have m1 := BE.c1
  have m2 := BE.c2
  have m3 := BE.c3
  have m4 := BE.c4
  have m5 := BE.c5
  have m6 := BE.c6
  go_upto_region 4 with fail
  refine at_world (fun W => TsI w W x ⟨mp, ba, bl, bc⟩ o res t) ⟨below_next hb0 hb0.size (by repeat' (first | exact Below.refl _ _ | (refine Below.alloc ?_ ?_ _) | (refine Below.setCell ?_ ?_ _) | (refine Below.drew ?_) | (refine below_next ?_ ?_ (by assumption)) | omega | (simp; done) | (simp; omega))), B6.below (by repeat' (first | exact Below.refl _ _ | (refine Below.alloc ?_ ?_ _) | (refine Below.setCell ?_ ?_ _) | (refine Below.drew ?_) | (refine below_next ?_ ?_ (by assumption)) | omega | (simp; done) | (simp; omega))), by rw [← hz0]; exact ⟨by first | (simp; done) | (simp; omega), by simp [go_sem], by simp [go_sem], by simp [go_sem], by simp [go_sem], by simp [go_sem], by simp [go_sem], by simp [go_sem]⟩⟩ ?_
  intro W1 N1
  (try simp only [hz0])
  clear m0 m1 m2 m3 m4 m5 m6 hb0 hz0 B6 BE
  have N := Lib.hid N1
  have n0 := (N1.bc).c0; have n1 := (N1.bc).box1; have n2 := (N1.bc).box2; have n3 := (N1.bc).box3; have n4 := (N1.bc).box4; have n5 := (N1.bc).box5; have n6 := (N1.bc).box6; have e0 := (N1.b6).c0; have e1 := (N1.b6).c1; have e2 := (N1.b6).c2; have e3 := (N1.b6).c3; have e4 := (N1.b6).c4; have e5 := (N1.b6).c5
  clear N1
  rw [HK.out] at n0
  rw [HLX.out.1] at n2
  rw [HLX.out.2] at n3
  go_upto_region 10 with (go_at_call 24; refine (HA _ N.out.hb).mono ?_; rintro e' w5 ⟨rfl, hb5⟩; have N := Lib.hid (N.out.below hb5); clear hb5 HA)
  refine at_world (fun W => TsI w W x ⟨mp, ba, bl, bc⟩ o res t ∧ Bx4 W w5.heap.size a) ⟨N.out.below (by repeat' (first | exact Below.refl _ _ | (refine Below.alloc ?_ ?_ _) | (refine Below.setCell ?_ ?_ _) | (refine Below.drew ?_) | (refine below_next ?_ ?_ (by assumption)) | omega | (simp; done) | (simp; omega))), ⟨by first | (simp; done) | (simp; omega), by simp [go_sem], by simp [go_sem], by simp [go_sem], by simp [go_sem], by simp [go_sem], by simp [go_sem], by simp [go_sem], by simp [go_sem]⟩⟩ ?_
  rintro W6 ⟨N6, A6⟩
  obtain ⟨D3, hD3⟩ : ∃ x, w5.heap.size = x := ⟨_, rfl⟩
  simp only [hD3] at A6 ⊢
  clear hD3 N n0 n1 n2 n3 n4 n5 n6 e0 e1 e2 e3 e4 e5
  have N := Lib.hid N6
  have AA := Lib.hid A6
  have n0 := (N6.bc).c0; have n1 := (N6.bc).box1; have n2 := (N6.bc).box2; have n3 := (N6.bc).box3; have n4 := (N6.bc).box4; have n5 := (N6.bc).box5; have n6 := (N6.bc).box6; have e0 := (N6.b6).c0; have e1 := (N6.b6).c1; have e2 := (N6.b6).c2; have e3 := (N6.b6).c3; have e4 := (N6.b6).c4; have e5 := (N6.b6).c5
  have x0 := (A6).c0; have x1 := (A6).c1; have x2 := (A6).c2; have x3 := (A6).c3; have xf0 := (A6).f0; have xf1 := (A6).f1; have xf2 := (A6).f2; have xf3 := (A6).f3
  clear N6 A6
  rw [HK.out] at n0
  rw [HLX.out.1] at n2
  rw [HLX.out.2] at n3
  rw [HZ.out] at x2
  go_upto_region 13 with (go_at_call 24; refine (HB _ N.out.hb).mono ?_; rintro e' w7 ⟨rfl, hb7⟩; have N := Lib.hid (N.out.below hb7); have AA := Lib.hid (AA.out.below hb7); clear hb7 HB)
  refine at_world (fun W => TsI w W x ⟨mp, ba, bl, bc⟩ o res t ∧ Bx4 W D3 a ∧ Bx4 W w7.heap.size b) ⟨N.out.below (by repeat' (first | exact Below.refl _ _ | (refine Below.alloc ?_ ?_ _) | (refine Below.setCell ?_ ?_ _) | (refine Below.drew ?_) | (refine below_next ?_ ?_ (by assumption)) | omega | (simp; done) | (simp; omega))), AA.out.below (by repeat' (first | exact Below.refl _ _ | (refine Below.alloc ?_ ?_ _) | (refine Below.setCell ?_ ?_ _) | (refine Below.drew ?_) | (refine below_next ?_ ?_ (by assumption)) | omega | (simp; done) | (simp; omega))), ⟨by first | (simp; done) | (simp; omega), by simp [go_sem], by simp [go_sem], by simp [go_sem], by simp [go_sem], by simp [go_sem], by simp [go_sem], by simp [go_sem], by simp [go_sem]⟩⟩ ?_
  rintro W8 ⟨N8, A8, B8⟩
  obtain ⟨D4, hD4⟩ : ∃ x, w7.heap.size = x := ⟨_, rfl⟩
  simp only [hD4] at B8 ⊢
  clear hD4 N AA n0 n1 n2 n3 n4 n5 n6 e0 e1 e2 e3 e4 e5 x0 xf0 x1 xf1 x2 xf2 x3 xf3
  have N := Lib.hid N8
  have n0 := (N8.bc).c0; have n1 := (N8.bc).box1; have n2 := (N8.bc).box2; have n3 := (N8.bc).box3; have n4 := (N8.bc).box4; have n5 := (N8.bc).box5; have n6 := (N8.bc).box6; have e0 := (N8.b6).c0; have e1 := (N8.b6).c1; have e2 := (N8.b6).c2; have e3 := (N8.b6).c3; have e4 := (N8.b6).c4; have e5 := (N8.b6).c5
  have x0 := (A8).c0; have x1 := (A8).c1; have x2 := (A8).c2; have x3 := (A8).c3; have xf0 := (A8).f0; have xf1 := (A8).f1; have xf2 := (A8).f2; have xf3 := (A8).f3
  have y0 := (B8).c0; have y1 := (B8).c1; have y2 := (B8).c2; have y3 := (B8).c3; have yf0 := (B8).f0; have yf1 := (B8).f1; have yf2 := (B8).f2; have yf3 := (B8).f3
  clear N8 A8 B8
  rw [HK.out] at n0
  go_upto_region 14 with fail
  have d0 := fun (x' : WIn (Below W8.heap.size W8)) => cell_later x'.h y2
  have d1 := fun (x' : WIn (Below W8.heap.size W8)) => cell_later x'.h y3
  refine region_in (Below W8.heap.size W8) (by kernel_rfl) (by kernel_rfl) (Below.refl _ _).drew (fun inst => ?_)
  iterate 7 (go_big_quiet_step (fail))
  refine wpQuiet_nil ?_
  intro wd hbd
  have hbz := below_next N.out.hb N.out.hb.size hbd
  go_wp2_with fail
  go_ret3
  exact ⟨rfl, hbz⟩
set_option maxRecDepth 100000 in
set_option maxHeartbeats 6400000 in
theorem ts_rel3 (x : Cv) (v o : NV) (res t : Int) (g len cc j : Nat) (w : World) (hj : j < len) (hE : BxC w g (j * 7) x) (hk : x.c.k = 1) (lx ly : Nat) (hlx : x.c.x.length = lx) (hly : x.c.y.length = ly) (hx3 : lx ≤ 300000) (hy3 : ly ≤ 300000) (a b : Gt) (HA : ∀ W, Below w.heap.size w W → Calls Try.prog 24 #[.slice x.ax lx x.cx, .int .i64 ((lx : Int) - 1), envA v o res t] W fun e' w' => e' = .returned (gtV a) ∧ Below W.heap.size W w') (HB : ∀ W, Below w.heap.size w W → Calls Try.prog 24 #[.slice x.ay ly x.cy, .int .i64 ((ly : Int) - 1), envA v o res t] W fun e' w' => e' = .returned (gtV b) ∧ Below W.heap.size W w') (hz : a.ub = 0) (hz2 : b.ub = 0) (T xx yy : Int) (q : Bool) (hT : mixT 8 a.t b.t = T) (hxx : wrapT T a.v = xx) (hyy : wrapT T b.v = yy) (hq : relI x.c.rel xx yy = q) :
    Calls Try.prog 16 #[.slice (some ⟨g, 0, none⟩) len cc, .int .i64 (j : Int), envA v o res t] w fun e' w' => e' = .returned (.tuple #[.bool q, .int .i64 0, .int .i64 0]) ∧ Below w.heap.size w w' := by
  have HK : Hid (x.c.k = 1) := Lib.hid hk
  clear hk
  have ex1 : IntKind.i64.wrap ((lx : Int) - 1) = (lx : Int) - 1 := IntWalk.i64_in _ (by omega)
  have ey1 : IntKind.i64.wrap ((ly : Int) - 1) = (ly : Int) - 1 := IntWalk.i64_in _ (by omega)
  have HLX := Lib.hid (And.intro hlx hly)
  clear hlx hly
  unfold envA gtV at HA HB
  have MC : ∀ W, Calls Try.prog 29 #[.int .i64 8, .int .i64 a.t, .int .i64 b.t] W fun e w' => e = .returned (.int .i64 T) ∧ W = w' := fun W => by have := mixed_c 8 a.t b.t W; rwa [hT] at this
  have LX : ∀ W, Calls Try.prog 31 #[.int .i64 T, .int .i64 a.v] W fun e w' => e = .returned (.int .i64 xx) ∧ W = w' := fun W => by have := wrap_c T a.v W; rwa [hxx] at this
  have LY : ∀ W, Calls Try.prog 31 #[.int .i64 T, .int .i64 b.v] W fun e w' => e = .returned (.int .i64 yy) ∧ W = w' := fun W => by have := wrap_c T b.v W; rwa [hyy] at this
  have LR : ∀ W, Calls Try.prog 30 #[.int .i64 x.c.rel, .int .i64 xx, .int .i64 yy] W fun e w' => e = .returned (.bool q) ∧ W = w' := fun W => by have := rel_c x.c.rel xx yy W; rwa [hq] at this
  obtain ⟨av, hav⟩ : ∃ z, a.v = z := ⟨_, rfl⟩
  obtain ⟨bv, hbv⟩ : ∃ z, b.v = z := ⟨_, rfl⟩
  have HV := Lib.hid (And.intro hav hbv)
  rw [hav] at LX
  rw [hbv] at LY
  have HZ := Lib.hid (And.intro hz hz2)
  clear hz hz2 hav hbv hxx hyy hq hT
  obtain ⟨mp, ba, bl, bc⟩ := v
  unfold envA
  simp only at HA HB
  have HE := Lib.hid hE
  have m0 := hE.c0
  have m1 := hE.c1
  have m2 := hE.c2
  have m3 := hE.c3
  have m4 := hE.c4
  have m5 := hE.c5
  have m6 := hE.c6
  have hj0 : (0 : Int) ≤ (j : Int) := by omega
  have hj1 : (j : Int) < (len : Int) := by omega
  have hg0 : g ≠ w.heap.size := by have := hE.lt; omega
  clear hE
  simp only
  go_enter Try.func16, Try.ntmps16
  go_upto_region 1 with fail
  refine at_world (fun W => Below w.heap.size w W ∧ W.heap.size = w.heap.size + 1 ∧ Bx6 W w.heap.size ⟨mp, ba, bl, bc⟩ o res t ∧ BxC W g (j * 7) x) ⟨(by repeat' (first | exact Below.refl _ _ | (refine Below.alloc ?_ ?_ _) | (refine Below.setCell ?_ ?_ _) | (refine Below.drew ?_) | (refine below_next ?_ ?_ (by assumption)) | omega | (simp; done) | (simp; omega))), by simp, ⟨by first | (simp; done) | (simp; omega), by simp [go_sem], by simp [go_sem], by simp [go_sem], by simp [go_sem], by simp [go_sem], by simp [go_sem]⟩, HE.out.below (by repeat' (first | exact Below.refl _ _ | (refine Below.alloc ?_ ?_ _) | (refine Below.setCell ?_ ?_ _) | (refine Below.drew ?_) | (refine below_next ?_ ?_ (by assumption)) | omega | (simp; done) | (simp; omega)))⟩ ?_
  rintro W0 ⟨hb0, hz0, B6, BE⟩
  clear m0 m1 m2 m3 m4 m5 m6
  have m0 := BE.c0
  have m1 := BE.c1
  have m2 := BE.c2
  have m3 := BE.c3
  have m4 := BE.c4
  have m5 := BE.c5
  have m6 := BE.c6
  go_upto_region 4 with fail
  refine at_world (fun W => TsI w W x ⟨mp, ba, bl, bc⟩ o res t) ⟨below_next hb0 hb0.size (by repeat' (first | exact Below.refl _ _ | (refine Below.alloc ?_ ?_ _) | (refine Below.setCell ?_ ?_ _) | (refine Below.drew ?_) | (refine below_next ?_ ?_ (by assumption)) | omega | (simp; done) | (simp; omega))), B6.below (by repeat' (first | exact Below.refl _ _ | (refine Below.alloc ?_ ?_ _) | (refine Below.setCell ?_ ?_ _) | (refine Below.drew ?_) | (refine below_next ?_ ?_ (by assumption)) | omega | (simp; done) | (simp; omega))), by rw [← hz0]; exact ⟨by first | (simp; done) | (simp; omega), by simp [go_sem], by simp [go_sem], by simp [go_sem], by simp [go_sem], by simp [go_sem], by simp [go_sem], by simp [go_sem]⟩⟩ ?_
  intro W1 N1
  (try simp only [hz0])
  clear m0 m1 m2 m3 m4 m5 m6 hb0 hz0 B6 BE
  have N := Lib.hid N1
  have n0 := (N1.bc).c0; have n1 := (N1.bc).box1; have n2 := (N1.bc).box2; have n3 := (N1.bc).box3; have n4 := (N1.bc).box4; have n5 := (N1.bc).box5; have n6 := (N1.bc).box6; have e0 := (N1.b6).c0; have e1 := (N1.b6).c1; have e2 := (N1.b6).c2; have e3 := (N1.b6).c3; have e4 := (N1.b6).c4; have e5 := (N1.b6).c5
  clear N1
  rw [HK.out] at n0
  rw [HLX.out.1] at n2
  rw [HLX.out.2] at n3
  go_upto_region 10 with (go_at_call 24; refine (HA _ N.out.hb).mono ?_; rintro e' w5 ⟨rfl, hb5⟩; have N := Lib.hid (N.out.below hb5); clear hb5 HA)
  refine at_world (fun W => TsI w W x ⟨mp, ba, bl, bc⟩ o res t ∧ Bx4 W w5.heap.size a) ⟨N.out.below (by repeat' (first | exact Below.refl _ _ | (refine Below.alloc ?_ ?_ _) | (refine Below.setCell ?_ ?_ _) | (refine Below.drew ?_) | (refine below_next ?_ ?_ (by assumption)) | omega | (simp; done) | (simp; omega))), ⟨by first | (simp; done) | (simp; omega), by simp [go_sem], by simp [go_sem], by simp [go_sem], by simp [go_sem], by simp [go_sem], by simp [go_sem], by simp [go_sem], by simp [go_sem]⟩⟩ ?_
  rintro W6 ⟨N6, A6⟩
  obtain ⟨D3, hD3⟩ : ∃ x, w5.heap.size = x := ⟨_, rfl⟩
  simp only [hD3] at A6 ⊢
  clear hD3 N n0 n1 n2 n3 n4 n5 n6 e0 e1 e2 e3 e4 e5
  have N := Lib.hid N6
  have AA := Lib.hid A6
  have n0 := (N6.bc).c0; have n1 := (N6.bc).box1; have n2 := (N6.bc).box2; have n3 := (N6.bc).box3; have n4 := (N6.bc).box4; have n5 := (N6.bc).box5; have n6 := (N6.bc).box6; have e0 := (N6.b6).c0; have e1 := (N6.b6).c1; have e2 := (N6.b6).c2; have e3 := (N6.b6).c3; have e4 := (N6.b6).c4; have e5 := (N6.b6).c5
  have x0 := (A6).c0; have x1 := (A6).c1; have x2 := (A6).c2; have x3 := (A6).c3; have xf0 := (A6).f0; have xf1 := (A6).f1; have xf2 := (A6).f2; have xf3 := (A6).f3
  clear N6 A6
  rw [HK.out] at n0
  rw [HLX.out.1] at n2
  rw [HLX.out.2] at n3
  rw [HZ.out.1] at x2
  go_upto_region 13 with (go_at_call 24; refine (HB _ N.out.hb).mono ?_; rintro e' w7 ⟨rfl, hb7⟩; have N := Lib.hid (N.out.below hb7); have AA := Lib.hid (AA.out.below hb7); clear hb7 HB)
  refine at_world (fun W => TsI w W x ⟨mp, ba, bl, bc⟩ o res t ∧ Bx4 W D3 a ∧ Bx4 W w7.heap.size b) ⟨N.out.below (by repeat' (first | exact Below.refl _ _ | (refine Below.alloc ?_ ?_ _) | (refine Below.setCell ?_ ?_ _) | (refine Below.drew ?_) | (refine below_next ?_ ?_ (by assumption)) | omega | (simp; done) | (simp; omega))), AA.out.below (by repeat' (first | exact Below.refl _ _ | (refine Below.alloc ?_ ?_ _) | (refine Below.setCell ?_ ?_ _) | (refine Below.drew ?_) | (refine below_next ?_ ?_ (by assumption)) | omega | (simp; done) | (simp; omega))), ⟨by first | (simp; done) | (simp; omega), by simp [go_sem], by simp [go_sem], by simp [go_sem], by simp [go_sem], by simp [go_sem], by simp [go_sem], by simp [go_sem], by simp [go_sem]⟩⟩ ?_
  rintro W8 ⟨N8, A8, B8⟩
  obtain ⟨D4, hD4⟩ : ∃ x, w7.heap.size = x := ⟨_, rfl⟩
  simp only [hD4] at B8 ⊢
  clear hD4 N AA n0 n1 n2 n3 n4 n5 n6 e0 e1 e2 e3 e4 e5 x0 xf0 x1 xf1 x2 xf2 x3 xf3
  have N := Lib.hid N8
  have n0 := (N8.bc).c0; have n1 := (N8.bc).box1; have n2 := (N8.bc).box2; have n3 := (N8.bc).box3; have n4 := (N8.bc).box4; have n5 := (N8.bc).box5; have n6 := (N8.bc).box6; have e0 := (N8.b6).c0; have e1 := (N8.b6).c1; have e2 := (N8.b6).c2; have e3 := (N8.b6).c3; have e4 := (N8.b6).c4; have e5 := (N8.b6).c5
  have x0 := (A8).c0; have x1 := (A8).c1; have x2 := (A8).c2; have x3 := (A8).c3; have xf0 := (A8).f0; have xf1 := (A8).f1; have xf2 := (A8).f2; have xf3 := (A8).f3
  have y0 := (B8).c0; have y1 := (B8).c1; have y2 := (B8).c2; have y3 := (B8).c3; have yf0 := (B8).f0; have yf1 := (B8).f1; have yf2 := (B8).f2; have yf3 := (B8).f3
  clear N8 A8 B8
  rw [HK.out] at n0
  rw [HZ.out.1] at x2
  rw [HZ.out.2] at y2
  rw [HV.out.1] at x0
  rw [HV.out.2] at y0
  go_upto_region 16 with (go_at_call 29; refine (MC _).mono ?_; rintro e' w' ⟨rfl, rfl⟩; clear MC)
  have d0 := fun (x' : WIn (Below W8.heap.size W8)) => cell_later x'.h n1
  have d1 := fun (x' : WIn (Below W8.heap.size W8)) => cell_later x'.h x0
  have d2 := fun (x' : WIn (Below W8.heap.size W8)) => cell_later x'.h y0
  refine region_in (Below W8.heap.size W8) (by kernel_rfl) (by kernel_rfl) (Below.refl _ _).drew (fun inst => ?_)
  iterate 14 (go_big_quiet_step (first | (go_at_call 31; with_reducible exact call_same _ (LX _)) | (go_at_call 31; with_reducible exact call_same _ (LY _)) | (go_at_call 30; exact call_same _ (LR _))))
  refine wpQuiet_nil ?_
  intro wd hbd
  have hbz := below_next N.out.hb N.out.hb.size hbd
  go_wp2_with fail
  go_ret3
  exact ⟨rfl, hbz⟩
set_option maxRecDepth 100000 in
set_option maxHeartbeats 6400000 in
theorem ts_not (x : Cv) (v o : NV) (res t : Int) (g len cc j : Nat) (w : World) (hj : j < len) (hE : BxC w g (j * 7) x) (hk : x.c.k = 2) (qb : Bool) (qu qa : Int) (HA : ∀ W, Below w.heap.size w W → Calls Try.prog 16 #[.slice (some ⟨g, 0, none⟩) len cc, .int .i64 x.c.a, envA v o res t] W fun e' w' => e' = .returned (.tuple #[.bool qb, .int .i64 qu, .int .i64 qa]) ∧ Below W.heap.size W w')  :
    Calls Try.prog 16 #[.slice (some ⟨g, 0, none⟩) len cc, .int .i64 (j : Int), envA v o res t] w fun e' w' => e' = .returned (.tuple #[.bool (!qb && decide (qu = 0)), .int .i64 qu, .int .i64 qa]) ∧ Below w.heap.size w w' := by
  have HK : Hid (x.c.k = 2) := Lib.hid hk
  clear hk
  unfold envA at HA
  obtain ⟨z, hz⟩ : ∃ z, (!qb && decide (qu = 0)) = z := ⟨_, rfl⟩
  rw [hz]
  have HC : (qb = true ∧ z = false) ∨ (qb = false ∧ qu = 0 ∧ z = true) ∨ (qb = false ∧ (qu == 0) = false ∧ z = false) := by
    cases qb with
    | true => exact .inl ⟨rfl, by rw [← hz]; rfl⟩
    | false =>
      by_cases h : qu = 0
      · exact .inr (.inl ⟨rfl, h, by rw [← hz, h]; rfl⟩)
      · exact .inr (.inr ⟨rfl, by rw [beq_eq_false_iff_ne]; exact h, by rw [← hz, decide_eq_false h]; rfl⟩)
  clear hz
  rcases HC with ⟨rfl, rfl⟩ | ⟨rfl, rfl, rfl⟩ | ⟨rfl, u0, rfl⟩
  · obtain ⟨mp, ba, bl, bc⟩ := v
    unfold envA
    simp only at HA
    have HE := Lib.hid hE
    have m0 := hE.c0
    have m1 := hE.c1
    have m2 := hE.c2
    have m3 := hE.c3
    have m4 := hE.c4
    have m5 := hE.c5
    have m6 := hE.c6
    have hj0 : (0 : Int) ≤ (j : Int) := by omega
    have hj1 : (j : Int) < (len : Int) := by omega
    have hg0 : g ≠ w.heap.size := by have := hE.lt; omega
    clear hE
    simp only
    go_enter Try.func16, Try.ntmps16
    go_upto_region 1 with fail
    refine at_world (fun W => Below w.heap.size w W ∧ W.heap.size = w.heap.size + 1 ∧ Bx6 W w.heap.size ⟨mp, ba, bl, bc⟩ o res t ∧ BxC W g (j * 7) x) ⟨(by repeat' (first | exact Below.refl _ _ | (refine Below.alloc ?_ ?_ _) | (refine Below.setCell ?_ ?_ _) | (refine Below.drew ?_) | (refine below_next ?_ ?_ (by assumption)) | omega | (simp; done) | (simp; omega))), by simp, ⟨by first | (simp; done) | (simp; omega), by simp [go_sem], by simp [go_sem], by simp [go_sem], by simp [go_sem], by simp [go_sem], by simp [go_sem]⟩, HE.out.below (by repeat' (first | exact Below.refl _ _ | (refine Below.alloc ?_ ?_ _) | (refine Below.setCell ?_ ?_ _) | (refine Below.drew ?_) | (refine below_next ?_ ?_ (by assumption)) | omega | (simp; done) | (simp; omega)))⟩ ?_
    rintro W0 ⟨hb0, hz0, B6, BE⟩
    clear m0 m1 m2 m3 m4 m5 m6
    have m0 := BE.c0
    have m1 := BE.c1
    have m2 := BE.c2
    have m3 := BE.c3
    have m4 := BE.c4
    have m5 := BE.c5
    have m6 := BE.c6
    go_upto_region 4 with fail
    refine at_world (fun W => TsI w W x ⟨mp, ba, bl, bc⟩ o res t) ⟨below_next hb0 hb0.size (by repeat' (first | exact Below.refl _ _ | (refine Below.alloc ?_ ?_ _) | (refine Below.setCell ?_ ?_ _) | (refine Below.drew ?_) | (refine below_next ?_ ?_ (by assumption)) | omega | (simp; done) | (simp; omega))), B6.below (by repeat' (first | exact Below.refl _ _ | (refine Below.alloc ?_ ?_ _) | (refine Below.setCell ?_ ?_ _) | (refine Below.drew ?_) | (refine below_next ?_ ?_ (by assumption)) | omega | (simp; done) | (simp; omega))), by rw [← hz0]; exact ⟨by first | (simp; done) | (simp; omega), by simp [go_sem], by simp [go_sem], by simp [go_sem], by simp [go_sem], by simp [go_sem], by simp [go_sem], by simp [go_sem]⟩⟩ ?_
    intro W1 N1
    (try simp only [hz0])
    clear m0 m1 m2 m3 m4 m5 m6 hb0 hz0 B6 BE
    have N := Lib.hid N1
    have n0 := (N1.bc).c0; have n1 := (N1.bc).box1; have n2 := (N1.bc).box2; have n3 := (N1.bc).box3; have n4 := (N1.bc).box4; have n5 := (N1.bc).box5; have n6 := (N1.bc).box6; have e0 := (N1.b6).c0; have e1 := (N1.b6).c1; have e2 := (N1.b6).c2; have e3 := (N1.b6).c3; have e4 := (N1.b6).c4; have e5 := (N1.b6).c5
    clear N1
    rw [HK.out] at n0
    go_wp2_with (go_at_call 16; refine (HA _ N.out.hb).mono ?_; rintro e' w5 ⟨rfl, hb5⟩; have N := Lib.hid (N.out.below hb5); have n0 := (N.out.bc).c0; have n1 := (N.out.bc).box1; have n2 := (N.out.bc).box2; have n3 := (N.out.bc).box3; have n4 := (N.out.bc).box4; have n5 := (N.out.bc).box5; have n6 := (N.out.bc).box6; have e0 := (N.out.b6).c0; have e1 := (N.out.b6).c1; have e2 := (N.out.b6).c2; have e3 := (N.out.b6).c3; have e4 := (N.out.b6).c4; have e5 := (N.out.b6).c5; rw [HK.out] at n0; clear hb5 HA)
    go_ret3
    exact ⟨rfl, N.out.hb⟩
  · obtain ⟨mp, ba, bl, bc⟩ := v
    unfold envA
    simp only at HA
    have HE := Lib.hid hE
    have m0 := hE.c0
    have m1 := hE.c1
    have m2 := hE.c2
    have m3 := hE.c3
    have m4 := hE.c4
    have m5 := hE.c5
    have m6 := hE.c6
    have hj0 : (0 : Int) ≤ (j : Int) := by omega
    have hj1 : (j : Int) < (len : Int) := by omega
    have hg0 : g ≠ w.heap.size := by have := hE.lt; omega
    clear hE
    simp only
    go_enter Try.func16, Try.ntmps16
    go_upto_region 1 with fail
    refine at_world (fun W => Below w.heap.size w W ∧ W.heap.size = w.heap.size + 1 ∧ Bx6 W w.heap.size ⟨mp, ba, bl, bc⟩ o res t ∧ BxC W g (j * 7) x) ⟨(by repeat' (first | exact Below.refl _ _ | (refine Below.alloc ?_ ?_ _) | (refine Below.setCell ?_ ?_ _) | (refine Below.drew ?_) | (refine below_next ?_ ?_ (by assumption)) | omega | (simp; done) | (simp; omega))), by simp, ⟨by first | (simp; done) | (simp; omega), by simp [go_sem], by simp [go_sem], by simp [go_sem], by simp [go_sem], by simp [go_sem], by simp [go_sem]⟩, HE.out.below (by repeat' (first | exact Below.refl _ _ | (refine Below.alloc ?_ ?_ _) | (refine Below.setCell ?_ ?_ _) | (refine Below.drew ?_) | (refine below_next ?_ ?_ (by assumption)) | omega | (simp; done) | (simp; omega)))⟩ ?_
    rintro W0 ⟨hb0, hz0, B6, BE⟩
    clear m0 m1 m2 m3 m4 m5 m6
    have m0 := BE.c0
    have m1 := BE.c1
    have m2 := BE.c2
    have m3 := BE.c3
    have m4 := BE.c4
    have m5 := BE.c5
    have m6 := BE.c6
    go_upto_region 4 with fail
    refine at_world (fun W => TsI w W x ⟨mp, ba, bl, bc⟩ o res t) ⟨below_next hb0 hb0.size (by repeat' (first | exact Below.refl _ _ | (refine Below.alloc ?_ ?_ _) | (refine Below.setCell ?_ ?_ _) | (refine Below.drew ?_) | (refine below_next ?_ ?_ (by assumption)) | omega | (simp; done) | (simp; omega))), B6.below (by repeat' (first | exact Below.refl _ _ | (refine Below.alloc ?_ ?_ _) | (refine Below.setCell ?_ ?_ _) | (refine Below.drew ?_) | (refine below_next ?_ ?_ (by assumption)) | omega | (simp; done) | (simp; omega))), by rw [← hz0]; exact ⟨by first | (simp; done) | (simp; omega), by simp [go_sem], by simp [go_sem], by simp [go_sem], by simp [go_sem], by simp [go_sem], by simp [go_sem], by simp [go_sem]⟩⟩ ?_
    intro W1 N1
    (try simp only [hz0])
    clear m0 m1 m2 m3 m4 m5 m6 hb0 hz0 B6 BE
    have N := Lib.hid N1
    have n0 := (N1.bc).c0; have n1 := (N1.bc).box1; have n2 := (N1.bc).box2; have n3 := (N1.bc).box3; have n4 := (N1.bc).box4; have n5 := (N1.bc).box5; have n6 := (N1.bc).box6; have e0 := (N1.b6).c0; have e1 := (N1.b6).c1; have e2 := (N1.b6).c2; have e3 := (N1.b6).c3; have e4 := (N1.b6).c4; have e5 := (N1.b6).c5
    clear N1
    rw [HK.out] at n0
    go_wp2_with (go_at_call 16; refine (HA _ N.out.hb).mono ?_; rintro e' w5 ⟨rfl, hb5⟩; have N := Lib.hid (N.out.below hb5); have n0 := (N.out.bc).c0; have n1 := (N.out.bc).box1; have n2 := (N.out.bc).box2; have n3 := (N.out.bc).box3; have n4 := (N.out.bc).box4; have n5 := (N.out.bc).box5; have n6 := (N.out.bc).box6; have e0 := (N.out.b6).c0; have e1 := (N.out.b6).c1; have e2 := (N.out.b6).c2; have e3 := (N.out.b6).c3; have e4 := (N.out.b6).c4; have e5 := (N.out.b6).c5; rw [HK.out] at n0; clear hb5 HA)
    go_ret3
    exact ⟨rfl, N.out.hb⟩
  · obtain ⟨mp, ba, bl, bc⟩ := v
    unfold envA
    simp only at HA
    have HE := Lib.hid hE
    have m0 := hE.c0
    have m1 := hE.c1
    have m2 := hE.c2
    have m3 := hE.c3
    have m4 := hE.c4
    have m5 := hE.c5
    have m6 := hE.c6
    have hj0 : (0 : Int) ≤ (j : Int) := by omega
    have hj1 : (j : Int) < (len : Int) := by omega
    have hg0 : g ≠ w.heap.size := by have := hE.lt; omega
    clear hE
    simp only
    go_enter Try.func16, Try.ntmps16
    go_upto_region 1 with fail
    refine at_world (fun W => Below w.heap.size w W ∧ W.heap.size = w.heap.size + 1 ∧ Bx6 W w.heap.size ⟨mp, ba, bl, bc⟩ o res t ∧ BxC W g (j * 7) x) ⟨(by repeat' (first | exact Below.refl _ _ | (refine Below.alloc ?_ ?_ _) | (refine Below.setCell ?_ ?_ _) | (refine Below.drew ?_) | (refine below_next ?_ ?_ (by assumption)) | omega | (simp; done) | (simp; omega))), by simp, ⟨by first | (simp; done) | (simp; omega), by simp [go_sem], by simp [go_sem], by simp [go_sem], by simp [go_sem], by simp [go_sem], by simp [go_sem]⟩, HE.out.below (by repeat' (first | exact Below.refl _ _ | (refine Below.alloc ?_ ?_ _) | (refine Below.setCell ?_ ?_ _) | (refine Below.drew ?_) | (refine below_next ?_ ?_ (by assumption)) | omega | (simp; done) | (simp; omega)))⟩ ?_
    rintro W0 ⟨hb0, hz0, B6, BE⟩
    clear m0 m1 m2 m3 m4 m5 m6
    have m0 := BE.c0
    have m1 := BE.c1
    have m2 := BE.c2
    have m3 := BE.c3
    have m4 := BE.c4
    have m5 := BE.c5
    have m6 := BE.c6
    go_upto_region 4 with fail
    refine at_world (fun W => TsI w W x ⟨mp, ba, bl, bc⟩ o res t) ⟨below_next hb0 hb0.size (by repeat' (first | exact Below.refl _ _ | (refine Below.alloc ?_ ?_ _) | (refine Below.setCell ?_ ?_ _) | (refine Below.drew ?_) | (refine below_next ?_ ?_ (by assumption)) | omega | (simp; done) | (simp; omega))), B6.below (by repeat' (first | exact Below.refl _ _ | (refine Below.alloc ?_ ?_ _) | (refine Below.setCell ?_ ?_ _) | (refine Below.drew ?_) | (refine below_next ?_ ?_ (by assumption)) | omega | (simp; done) | (simp; omega))), by rw [← hz0]; exact ⟨by first | (simp; done) | (simp; omega), by simp [go_sem], by simp [go_sem], by simp [go_sem], by simp [go_sem], by simp [go_sem], by simp [go_sem], by simp [go_sem]⟩⟩ ?_
    intro W1 N1
    (try simp only [hz0])
    clear m0 m1 m2 m3 m4 m5 m6 hb0 hz0 B6 BE
    have N := Lib.hid N1
    have n0 := (N1.bc).c0; have n1 := (N1.bc).box1; have n2 := (N1.bc).box2; have n3 := (N1.bc).box3; have n4 := (N1.bc).box4; have n5 := (N1.bc).box5; have n6 := (N1.bc).box6; have e0 := (N1.b6).c0; have e1 := (N1.b6).c1; have e2 := (N1.b6).c2; have e3 := (N1.b6).c3; have e4 := (N1.b6).c4; have e5 := (N1.b6).c5
    clear N1
    rw [HK.out] at n0
    go_wp2_with (go_at_call 16; refine (HA _ N.out.hb).mono ?_; rintro e' w5 ⟨rfl, hb5⟩; have N := Lib.hid (N.out.below hb5); have n0 := (N.out.bc).c0; have n1 := (N.out.bc).box1; have n2 := (N.out.bc).box2; have n3 := (N.out.bc).box3; have n4 := (N.out.bc).box4; have n5 := (N.out.bc).box5; have n6 := (N.out.bc).box6; have e0 := (N.out.b6).c0; have e1 := (N.out.b6).c1; have e2 := (N.out.b6).c2; have e3 := (N.out.b6).c3; have e4 := (N.out.b6).c4; have e5 := (N.out.b6).c5; rw [HK.out] at n0; clear hb5 HA)
    go_ret3
    exact ⟨rfl, N.out.hb⟩
set_option maxRecDepth 100000 in
set_option maxHeartbeats 6400000 in
theorem ts_and1 (x : Cv) (v o : NV) (res t : Int) (g len cc j : Nat) (w : World) (hj : j < len) (hE : BxC w g (j * 7) x) (hk : x.c.k = 3) (qu qa : Int) (HA : ∀ W, Below w.heap.size w W → Calls Try.prog 16 #[.slice (some ⟨g, 0, none⟩) len cc, .int .i64 x.c.a, envA v o res t] W fun e' w' => e' = .returned (.tuple #[.bool false, .int .i64 qu, .int .i64 qa]) ∧ Below W.heap.size W w')  :
    Calls Try.prog 16 #[.slice (some ⟨g, 0, none⟩) len cc, .int .i64 (j : Int), envA v o res t] w fun e' w' => e' = .returned (.tuple #[.bool false, .int .i64 qu, .int .i64 qa]) ∧ Below w.heap.size w w' := by
  have HK : Hid (x.c.k = 3) := Lib.hid hk
  clear hk
  unfold envA at HA
  have hcu : qu = 0 ∨ ((qu == 0) = false ∧ (qu != 0) = true) := by
    by_cases h : qu = 0
    · exact .inl h
    · have h2 : (qu == 0) = false := by rw [beq_eq_false_iff_ne]; exact h
      exact .inr ⟨h2, by rw [bne, h2]; rfl⟩
  rcases hcu with rfl | ⟨u0, u1⟩
  · obtain ⟨mp, ba, bl, bc⟩ := v
    unfold envA
    simp only at HA
    have HE := Lib.hid hE
    have m0 := hE.c0
    have m1 := hE.c1
    have m2 := hE.c2
    have m3 := hE.c3
    have m4 := hE.c4
    have m5 := hE.c5
    have m6 := hE.c6
    have hj0 : (0 : Int) ≤ (j : Int) := by omega
    have hj1 : (j : Int) < (len : Int) := by omega
    have hg0 : g ≠ w.heap.size := by have := hE.lt; omega
    clear hE
    simp only
    go_enter Try.func16, Try.ntmps16
    go_upto_region 1 with fail
    refine at_world (fun W => Below w.heap.size w W ∧ W.heap.size = w.heap.size + 1 ∧ Bx6 W w.heap.size ⟨mp, ba, bl, bc⟩ o res t ∧ BxC W g (j * 7) x) ⟨(by repeat' (first | exact Below.refl _ _ | (refine Below.alloc ?_ ?_ _) | (refine Below.setCell ?_ ?_ _) | (refine Below.drew ?_) | (refine below_next ?_ ?_ (by assumption)) | omega | (simp; done) | (simp; omega))), by simp, ⟨by first | (simp; done) | (simp; omega), by simp [go_sem], by simp [go_sem], by simp [go_sem], by simp [go_sem], by simp [go_sem], by simp [go_sem]⟩, HE.out.below (by repeat' (first | exact Below.refl _ _ | (refine Below.alloc ?_ ?_ _) | (refine Below.setCell ?_ ?_ _) | (refine Below.drew ?_) | (refine below_next ?_ ?_ (by assumption)) | omega | (simp; done) | (simp; omega)))⟩ ?_
    rintro W0 ⟨hb0, hz0, B6, BE⟩
    clear m0 m1 m2 m3 m4 m5 m6
    have m0 := BE.c0
    have m1 := BE.c1
    have m2 := BE.c2
    have m3 := BE.c3
    have m4 := BE.c4
    have m5 := BE.c5
    have m6 := BE.c6
    go_upto_region 4 with fail
    refine at_world (fun W => TsI w W x ⟨mp, ba, bl, bc⟩ o res t) ⟨below_next hb0 hb0.size (by repeat' (first | exact Below.refl _ _ | (refine Below.alloc ?_ ?_ _) | (refine Below.setCell ?_ ?_ _) | (refine Below.drew ?_) | (refine below_next ?_ ?_ (by assumption)) | omega | (simp; done) | (simp; omega))), B6.below (by repeat' (first | exact Below.refl _ _ | (refine Below.alloc ?_ ?_ _) | (refine Below.setCell ?_ ?_ _) | (refine Below.drew ?_) | (refine below_next ?_ ?_ (by assumption)) | omega | (simp; done) | (simp; omega))), by rw [← hz0]; exact ⟨by first | (simp; done) | (simp; omega), by simp [go_sem], by simp [go_sem], by simp [go_sem], by simp [go_sem], by simp [go_sem], by simp [go_sem], by simp [go_sem]⟩⟩ ?_
    intro W1 N1
    (try simp only [hz0])
    clear m0 m1 m2 m3 m4 m5 m6 hb0 hz0 B6 BE
    have N := Lib.hid N1
    have n0 := (N1.bc).c0; have n1 := (N1.bc).box1; have n2 := (N1.bc).box2; have n3 := (N1.bc).box3; have n4 := (N1.bc).box4; have n5 := (N1.bc).box5; have n6 := (N1.bc).box6; have e0 := (N1.b6).c0; have e1 := (N1.b6).c1; have e2 := (N1.b6).c2; have e3 := (N1.b6).c3; have e4 := (N1.b6).c4; have e5 := (N1.b6).c5
    clear N1
    rw [HK.out] at n0
    go_wp2_with (go_at_call 16; refine (HA _ N.out.hb).mono ?_; rintro e' w5 ⟨rfl, hb5⟩; have N := Lib.hid (N.out.below hb5); have n0 := (N.out.bc).c0; have n1 := (N.out.bc).box1; have n2 := (N.out.bc).box2; have n3 := (N.out.bc).box3; have n4 := (N.out.bc).box4; have n5 := (N.out.bc).box5; have n6 := (N.out.bc).box6; have e0 := (N.out.b6).c0; have e1 := (N.out.b6).c1; have e2 := (N.out.b6).c2; have e3 := (N.out.b6).c3; have e4 := (N.out.b6).c4; have e5 := (N.out.b6).c5; rw [HK.out] at n0; clear hb5 HA)
    go_ret3
    exact ⟨rfl, N.out.hb⟩
  · obtain ⟨mp, ba, bl, bc⟩ := v
    unfold envA
    simp only at HA
    have HE := Lib.hid hE
    have m0 := hE.c0
    have m1 := hE.c1
    have m2 := hE.c2
    have m3 := hE.c3
    have m4 := hE.c4
    have m5 := hE.c5
    have m6 := hE.c6
    have hj0 : (0 : Int) ≤ (j : Int) := by omega
    have hj1 : (j : Int) < (len : Int) := by omega
    have hg0 : g ≠ w.heap.size := by have := hE.lt; omega
    clear hE
    simp only
    go_enter Try.func16, Try.ntmps16
    go_upto_region 1 with fail
    refine at_world (fun W => Below w.heap.size w W ∧ W.heap.size = w.heap.size + 1 ∧ Bx6 W w.heap.size ⟨mp, ba, bl, bc⟩ o res t ∧ BxC W g (j * 7) x) ⟨(by repeat' (first | exact Below.refl _ _ | (refine Below.alloc ?_ ?_ _) | (refine Below.setCell ?_ ?_ _) | (refine Below.drew ?_) | (refine below_next ?_ ?_ (by assumption)) | omega | (simp; done) | (simp; omega))), by simp, ⟨by first | (simp; done) | (simp; omega), by simp [go_sem], by simp [go_sem], by simp [go_sem], by simp [go_sem], by simp [go_sem], by simp [go_sem]⟩, HE.out.below (by repeat' (first | exact Below.refl _ _ | (refine Below.alloc ?_ ?_ _) | (refine Below.setCell ?_ ?_ _) | (refine Below.drew ?_) | (refine below_next ?_ ?_ (by assumption)) | omega | (simp; done) | (simp; omega)))⟩ ?_
    rintro W0 ⟨hb0, hz0, B6, BE⟩
    clear m0 m1 m2 m3 m4 m5 m6
    have m0 := BE.c0
    have m1 := BE.c1
    have m2 := BE.c2
    have m3 := BE.c3
    have m4 := BE.c4
    have m5 := BE.c5
    have m6 := BE.c6
    go_upto_region 4 with fail
    refine at_world (fun W => TsI w W x ⟨mp, ba, bl, bc⟩ o res t) ⟨below_next hb0 hb0.size (by repeat' (first | exact Below.refl _ _ | (refine Below.alloc ?_ ?_ _) | (refine Below.setCell ?_ ?_ _) | (refine Below.drew ?_) | (refine below_next ?_ ?_ (by assumption)) | omega | (simp; done) | (simp; omega))), B6.below (by repeat' (first | exact Below.refl _ _ | (refine Below.alloc ?_ ?_ _) | (refine Below.setCell ?_ ?_ _) | (refine Below.drew ?_) | (refine below_next ?_ ?_ (by assumption)) | omega | (simp; done) | (simp; omega))), by rw [← hz0]; exact ⟨by first | (simp; done) | (simp; omega), by simp [go_sem], by simp [go_sem], by simp [go_sem], by simp [go_sem], by simp [go_sem], by simp [go_sem], by simp [go_sem]⟩⟩ ?_
    intro W1 N1
    (try simp only [hz0])
    clear m0 m1 m2 m3 m4 m5 m6 hb0 hz0 B6 BE
    have N := Lib.hid N1
    have n0 := (N1.bc).c0; have n1 := (N1.bc).box1; have n2 := (N1.bc).box2; have n3 := (N1.bc).box3; have n4 := (N1.bc).box4; have n5 := (N1.bc).box5; have n6 := (N1.bc).box6; have e0 := (N1.b6).c0; have e1 := (N1.b6).c1; have e2 := (N1.b6).c2; have e3 := (N1.b6).c3; have e4 := (N1.b6).c4; have e5 := (N1.b6).c5
    clear N1
    rw [HK.out] at n0
    go_wp2_with (go_at_call 16; refine (HA _ N.out.hb).mono ?_; rintro e' w5 ⟨rfl, hb5⟩; have N := Lib.hid (N.out.below hb5); have n0 := (N.out.bc).c0; have n1 := (N.out.bc).box1; have n2 := (N.out.bc).box2; have n3 := (N.out.bc).box3; have n4 := (N.out.bc).box4; have n5 := (N.out.bc).box5; have n6 := (N.out.bc).box6; have e0 := (N.out.b6).c0; have e1 := (N.out.b6).c1; have e2 := (N.out.b6).c2; have e3 := (N.out.b6).c3; have e4 := (N.out.b6).c4; have e5 := (N.out.b6).c5; rw [HK.out] at n0; clear hb5 HA)
    go_ret3
    exact ⟨rfl, N.out.hb⟩
set_option maxRecDepth 100000 in
set_option maxHeartbeats 6400000 in
theorem ts_and2 (x : Cv) (v o : NV) (res t : Int) (g len cc j : Nat) (w : World) (hj : j < len) (hE : BxC w g (j * 7) x) (hk : x.c.k = 3) (qa pu pa : Int) (pb : Bool) (HA : ∀ W, Below w.heap.size w W → Calls Try.prog 16 #[.slice (some ⟨g, 0, none⟩) len cc, .int .i64 x.c.a, envA v o res t] W fun e' w' => e' = .returned (.tuple #[.bool true, .int .i64 0, .int .i64 qa]) ∧ Below W.heap.size W w') (HB : ∀ W, Below w.heap.size w W → Calls Try.prog 16 #[.slice (some ⟨g, 0, none⟩) len cc, .int .i64 x.c.b, envA v o res t] W fun e' w' => e' = .returned (.tuple #[.bool pb, .int .i64 pu, .int .i64 pa]) ∧ Below W.heap.size W w')  :
    Calls Try.prog 16 #[.slice (some ⟨g, 0, none⟩) len cc, .int .i64 (j : Int), envA v o res t] w fun e' w' => e' = .returned (.tuple #[.bool pb, .int .i64 pu, .int .i64 pa]) ∧ Below w.heap.size w w' := by
  have HK : Hid (x.c.k = 3) := Lib.hid hk
  clear hk
  unfold envA at HA HB
  obtain ⟨mp, ba, bl, bc⟩ := v
  unfold envA
  simp only at HA HB
  have HE := Lib.hid hE
  have m0 := hE.c0
  have m1 := hE.c1
  have m2 := hE.c2
  have m3 := hE.c3
  have m4 := hE.c4
  have m5 := hE.c5
  have m6 := hE.c6
  have hj0 : (0 : Int) ≤ (j : Int) := by omega
  have hj1 : (j : Int) < (len : Int) := by omega
  have hg0 : g ≠ w.heap.size := by have := hE.lt; omega
  clear hE
  simp only
  go_enter Try.func16, Try.ntmps16
  go_upto_region 1 with fail
  refine at_world (fun W => Below w.heap.size w W ∧ W.heap.size = w.heap.size + 1 ∧ Bx6 W w.heap.size ⟨mp, ba, bl, bc⟩ o res t ∧ BxC W g (j * 7) x) ⟨(by repeat' (first | exact Below.refl _ _ | (refine Below.alloc ?_ ?_ _) | (refine Below.setCell ?_ ?_ _) | (refine Below.drew ?_) | (refine below_next ?_ ?_ (by assumption)) | omega | (simp; done) | (simp; omega))), by simp, ⟨by first | (simp; done) | (simp; omega), by simp [go_sem], by simp [go_sem], by simp [go_sem], by simp [go_sem], by simp [go_sem], by simp [go_sem]⟩, HE.out.below (by repeat' (first | exact Below.refl _ _ | (refine Below.alloc ?_ ?_ _) | (refine Below.setCell ?_ ?_ _) | (refine Below.drew ?_) | (refine below_next ?_ ?_ (by assumption)) | omega | (simp; done) | (simp; omega)))⟩ ?_
  rintro W0 ⟨hb0, hz0, B6, BE⟩
  clear m0 m1 m2 m3 m4 m5 m6
  have m0 := BE.c0
  have m1 := BE.c1
  have m2 := BE.c2
  have m3 := BE.c3
  have m4 := BE.c4
  have m5 := BE.c5
  have m6 := BE.c6
  go_upto_region 4 with fail
  refine at_world (fun W => TsI w W x ⟨mp, ba, bl, bc⟩ o res t) ⟨below_next hb0 hb0.size (by repeat' (first | exact Below.refl _ _ | (refine Below.alloc ?_ ?_ _) | (refine Below.setCell ?_ ?_ _) | (refine Below.drew ?_) | (refine below_next ?_ ?_ (by assumption)) | omega | (simp; done) | (simp; omega))), B6.below (by repeat' (first | exact Below.refl _ _ | (refine Below.alloc ?_ ?_ _) | (refine Below.setCell ?_ ?_ _) | (refine Below.drew ?_) | (refine below_next ?_ ?_ (by assumption)) | omega | (simp; done) | (simp; omega))), by rw [← hz0]; exact ⟨by first | (simp; done) | (simp; omega), by simp [go_sem], by simp [go_sem], by simp [go_sem], by simp [go_sem], by simp [go_sem], by simp [go_sem], by simp [go_sem]⟩⟩ ?_
  intro W1 N1
  (try simp only [hz0])
  clear m0 m1 m2 m3 m4 m5 m6 hb0 hz0 B6 BE
  have N := Lib.hid N1
  have n0 := (N1.bc).c0; have n1 := (N1.bc).box1; have n2 := (N1.bc).box2; have n3 := (N1.bc).box3; have n4 := (N1.bc).box4; have n5 := (N1.bc).box5; have n6 := (N1.bc).box6; have e0 := (N1.b6).c0; have e1 := (N1.b6).c1; have e2 := (N1.b6).c2; have e3 := (N1.b6).c3; have e4 := (N1.b6).c4; have e5 := (N1.b6).c5
  clear N1
  rw [HK.out] at n0
  go_wp2_with (first | (go_at_call 16; refine (HA _ N.out.hb).mono ?_; rintro e' w5 ⟨rfl, hb5⟩; have N := Lib.hid (N.out.below hb5); have n0 := (N.out.bc).c0; have n1 := (N.out.bc).box1; have n2 := (N.out.bc).box2; have n3 := (N.out.bc).box3; have n4 := (N.out.bc).box4; have n5 := (N.out.bc).box5; have n6 := (N.out.bc).box6; have e0 := (N.out.b6).c0; have e1 := (N.out.b6).c1; have e2 := (N.out.b6).c2; have e3 := (N.out.b6).c3; have e4 := (N.out.b6).c4; have e5 := (N.out.b6).c5; rw [HK.out] at n0; clear hb5 HA) | (go_at_call 16; refine (HB _ N.out.hb).mono ?_; rintro e' w7 ⟨rfl, hb7⟩; have N := Lib.hid (N.out.below hb7); clear hb7 HB))
  go_ret3
  exact ⟨rfl, N.out.hb⟩
set_option maxRecDepth 100000 in
set_option maxHeartbeats 6400000 in
theorem ts_or1 (x : Cv) (v o : NV) (res t : Int) (g len cc j : Nat) (w : World) (hj : j < len) (hE : BxC w g (j * 7) x) (hk : x.c.k = 4) (qa : Int) (HA : ∀ W, Below w.heap.size w W → Calls Try.prog 16 #[.slice (some ⟨g, 0, none⟩) len cc, .int .i64 x.c.a, envA v o res t] W fun e' w' => e' = .returned (.tuple #[.bool true, .int .i64 0, .int .i64 qa]) ∧ Below W.heap.size W w')  :
    Calls Try.prog 16 #[.slice (some ⟨g, 0, none⟩) len cc, .int .i64 (j : Int), envA v o res t] w fun e' w' => e' = .returned (.tuple #[.bool true, .int .i64 0, .int .i64 qa]) ∧ Below w.heap.size w w' := by
  have HK : Hid (x.c.k = 4) := Lib.hid hk
  clear hk
  unfold envA at HA
  obtain ⟨mp, ba, bl, bc⟩ := v
  unfold envA
  simp only at HA
  have HE := Lib.hid hE
  have m0 := hE.c0
  have m1 := hE.c1
  have m2 := hE.c2
  have m3 := hE.c3
  have m4 := hE.c4
  have m5 := hE.c5
  have m6 := hE.c6
  have hj0 : (0 : Int) ≤ (j : Int) := by omega
  have hj1 : (j : Int) < (len : Int) := by omega
  have hg0 : g ≠ w.heap.size := by have := hE.lt; omega
  clear hE
  simp only
  go_enter Try.func16, Try.ntmps16
  go_upto_region 1 with fail
  refine at_world (fun W => Below w.heap.size w W ∧ W.heap.size = w.heap.size + 1 ∧ Bx6 W w.heap.size ⟨mp, ba, bl, bc⟩ o res t ∧ BxC W g (j * 7) x) ⟨(by repeat' (first | exact Below.refl _ _ | (refine Below.alloc ?_ ?_ _) | (refine Below.setCell ?_ ?_ _) | (refine Below.drew ?_) | (refine below_next ?_ ?_ (by assumption)) | omega | (simp; done) | (simp; omega))), by simp, ⟨by first | (simp; done) | (simp; omega), by simp [go_sem], by simp [go_sem], by simp [go_sem], by simp [go_sem], by simp [go_sem], by simp [go_sem]⟩, HE.out.below (by repeat' (first | exact Below.refl _ _ | (refine Below.alloc ?_ ?_ _) | (refine Below.setCell ?_ ?_ _) | (refine Below.drew ?_) | (refine below_next ?_ ?_ (by assumption)) | omega | (simp; done) | (simp; omega)))⟩ ?_
  rintro W0 ⟨hb0, hz0, B6, BE⟩
  clear m0 m1 m2 m3 m4 m5 m6
  have m0 := BE.c0
  have m1 := BE.c1
  have m2 := BE.c2
  have m3 := BE.c3
  have m4 := BE.c4
  have m5 := BE.c5
  have m6 := BE.c6
  go_upto_region 4 with fail
  refine at_world (fun W => TsI w W x ⟨mp, ba, bl, bc⟩ o res t) ⟨below_next hb0 hb0.size (by repeat' (first | exact Below.refl _ _ | (refine Below.alloc ?_ ?_ _) | (refine Below.setCell ?_ ?_ _) | (refine Below.drew ?_) | (refine below_next ?_ ?_ (by assumption)) | omega | (simp; done) | (simp; omega))), B6.below (by repeat' (first | exact Below.refl _ _ | (refine Below.alloc ?_ ?_ _) | (refine Below.setCell ?_ ?_ _) | (refine Below.drew ?_) | (refine below_next ?_ ?_ (by assumption)) | omega | (simp; done) | (simp; omega))), by rw [← hz0]; exact ⟨by first | (simp; done) | (simp; omega), by simp [go_sem], by simp [go_sem], by simp [go_sem], by simp [go_sem], by simp [go_sem], by simp [go_sem], by simp [go_sem]⟩⟩ ?_
  intro W1 N1
  (try simp only [hz0])
  clear m0 m1 m2 m3 m4 m5 m6 hb0 hz0 B6 BE
  have N := Lib.hid N1
  have n0 := (N1.bc).c0; have n1 := (N1.bc).box1; have n2 := (N1.bc).box2; have n3 := (N1.bc).box3; have n4 := (N1.bc).box4; have n5 := (N1.bc).box5; have n6 := (N1.bc).box6; have e0 := (N1.b6).c0; have e1 := (N1.b6).c1; have e2 := (N1.b6).c2; have e3 := (N1.b6).c3; have e4 := (N1.b6).c4; have e5 := (N1.b6).c5
  clear N1
  rw [HK.out] at n0
  go_wp2_with (go_at_call 16; refine (HA _ N.out.hb).mono ?_; rintro e' w5 ⟨rfl, hb5⟩; have N := Lib.hid (N.out.below hb5); have n0 := (N.out.bc).c0; have n1 := (N.out.bc).box1; have n2 := (N.out.bc).box2; have n3 := (N.out.bc).box3; have n4 := (N.out.bc).box4; have n5 := (N.out.bc).box5; have n6 := (N.out.bc).box6; have e0 := (N.out.b6).c0; have e1 := (N.out.b6).c1; have e2 := (N.out.b6).c2; have e3 := (N.out.b6).c3; have e4 := (N.out.b6).c4; have e5 := (N.out.b6).c5; rw [HK.out] at n0; clear hb5 HA)
  go_ret3
  exact ⟨rfl, N.out.hb⟩
set_option maxRecDepth 100000 in
set_option maxHeartbeats 6400000 in
theorem ts_or2 (x : Cv) (v o : NV) (res t : Int) (g len cc j : Nat) (w : World) (hj : j < len) (hE : BxC w g (j * 7) x) (hk : x.c.k = 4) (qa pu pa : Int) (pb : Bool) (HA : ∀ W, Below w.heap.size w W → Calls Try.prog 16 #[.slice (some ⟨g, 0, none⟩) len cc, .int .i64 x.c.a, envA v o res t] W fun e' w' => e' = .returned (.tuple #[.bool false, .int .i64 0, .int .i64 qa]) ∧ Below W.heap.size W w') (HB : ∀ W, Below w.heap.size w W → Calls Try.prog 16 #[.slice (some ⟨g, 0, none⟩) len cc, .int .i64 x.c.b, envA v o res t] W fun e' w' => e' = .returned (.tuple #[.bool pb, .int .i64 pu, .int .i64 pa]) ∧ Below W.heap.size W w')  :
    Calls Try.prog 16 #[.slice (some ⟨g, 0, none⟩) len cc, .int .i64 (j : Int), envA v o res t] w fun e' w' => e' = .returned (.tuple #[.bool pb, .int .i64 pu, .int .i64 pa]) ∧ Below w.heap.size w w' := by
  have HK : Hid (x.c.k = 4) := Lib.hid hk
  clear hk
  unfold envA at HA HB
  obtain ⟨mp, ba, bl, bc⟩ := v
  unfold envA
  simp only at HA HB
  have HE := Lib.hid hE
  have m0 := hE.c0
  have m1 := hE.c1
  have m2 := hE.c2
  have m3 := hE.c3
  have m4 := hE.c4
  have m5 := hE.c5
  have m6 := hE.c6
  have hj0 : (0 : Int) ≤ (j : Int) := by omega
  have hj1 : (j : Int) < (len : Int) := by omega
  have hg0 : g ≠ w.heap.size := by have := hE.lt; omega
  clear hE
  simp only
  go_enter Try.func16, Try.ntmps16
  go_upto_region 1 with fail
  refine at_world (fun W => Below w.heap.size w W ∧ W.heap.size = w.heap.size + 1 ∧ Bx6 W w.heap.size ⟨mp, ba, bl, bc⟩ o res t ∧ BxC W g (j * 7) x) ⟨(by repeat' (first | exact Below.refl _ _ | (refine Below.alloc ?_ ?_ _) | (refine Below.setCell ?_ ?_ _) | (refine Below.drew ?_) | (refine below_next ?_ ?_ (by assumption)) | omega | (simp; done) | (simp; omega))), by simp, ⟨by first | (simp; done) | (simp; omega), by simp [go_sem], by simp [go_sem], by simp [go_sem], by simp [go_sem], by simp [go_sem], by simp [go_sem]⟩, HE.out.below (by repeat' (first | exact Below.refl _ _ | (refine Below.alloc ?_ ?_ _) | (refine Below.setCell ?_ ?_ _) | (refine Below.drew ?_) | (refine below_next ?_ ?_ (by assumption)) | omega | (simp; done) | (simp; omega)))⟩ ?_
  rintro W0 ⟨hb0, hz0, B6, BE⟩
  clear m0 m1 m2 m3 m4 m5 m6
  have m0 := BE.c0
  have m1 := BE.c1
  have m2 := BE.c2
  have m3 := BE.c3
  have m4 := BE.c4
  have m5 := BE.c5
  have m6 := BE.c6
  go_upto_region 4 with fail
  refine at_world (fun W => TsI w W x ⟨mp, ba, bl, bc⟩ o res t) ⟨below_next hb0 hb0.size (by repeat' (first | exact Below.refl _ _ | (refine Below.alloc ?_ ?_ _) | (refine Below.setCell ?_ ?_ _) | (refine Below.drew ?_) | (refine below_next ?_ ?_ (by assumption)) | omega | (simp; done) | (simp; omega))), B6.below (by repeat' (first | exact Below.refl _ _ | (refine Below.alloc ?_ ?_ _) | (refine Below.setCell ?_ ?_ _) | (refine Below.drew ?_) | (refine below_next ?_ ?_ (by assumption)) | omega | (simp; done) | (simp; omega))), by rw [← hz0]; exact ⟨by first | (simp; done) | (simp; omega), by simp [go_sem], by simp [go_sem], by simp [go_sem], by simp [go_sem], by simp [go_sem], by simp [go_sem], by simp [go_sem]⟩⟩ ?_
  intro W1 N1
  (try simp only [hz0])
  clear m0 m1 m2 m3 m4 m5 m6 hb0 hz0 B6 BE
  have N := Lib.hid N1
  have n0 := (N1.bc).c0; have n1 := (N1.bc).box1; have n2 := (N1.bc).box2; have n3 := (N1.bc).box3; have n4 := (N1.bc).box4; have n5 := (N1.bc).box5; have n6 := (N1.bc).box6; have e0 := (N1.b6).c0; have e1 := (N1.b6).c1; have e2 := (N1.b6).c2; have e3 := (N1.b6).c3; have e4 := (N1.b6).c4; have e5 := (N1.b6).c5
  clear N1
  rw [HK.out] at n0
  go_wp2_with (first | (go_at_call 16; refine (HA _ N.out.hb).mono ?_; rintro e' w5 ⟨rfl, hb5⟩; have N := Lib.hid (N.out.below hb5); have n0 := (N.out.bc).c0; have n1 := (N.out.bc).box1; have n2 := (N.out.bc).box2; have n3 := (N.out.bc).box3; have n4 := (N.out.bc).box4; have n5 := (N.out.bc).box5; have n6 := (N.out.bc).box6; have e0 := (N.out.b6).c0; have e1 := (N.out.b6).c1; have e2 := (N.out.b6).c2; have e3 := (N.out.b6).c3; have e4 := (N.out.b6).c4; have e5 := (N.out.b6).c5; rw [HK.out] at n0; clear hb5 HA) | (go_at_call 16; refine (HB _ N.out.hb).mono ?_; rintro e' w7 ⟨rfl, hb7⟩; have N := Lib.hid (N.out.below hb7); clear hb7 HB))
  go_ret3
  exact ⟨rfl, N.out.hb⟩
set_option maxRecDepth 100000 in
set_option maxHeartbeats 6400000 in
theorem ts_or3 (x : Cv) (v o : NV) (res t : Int) (g len cc j : Nat) (w : World) (hj : j < len) (hE : BxC w g (j * 7) x) (hk : x.c.k = 4) (qu qa : Int) (hu : qu ≠ 0) (HA : ∀ W, Below w.heap.size w W → Calls Try.prog 16 #[.slice (some ⟨g, 0, none⟩) len cc, .int .i64 x.c.a, envA v o res t] W fun e' w' => e' = .returned (.tuple #[.bool false, .int .i64 qu, .int .i64 qa]) ∧ Below W.heap.size W w')  :
    Calls Try.prog 16 #[.slice (some ⟨g, 0, none⟩) len cc, .int .i64 (j : Int), envA v o res t] w fun e' w' => e' = .returned (.tuple #[.bool false, .int .i64 qu, .int .i64 qa]) ∧ Below w.heap.size w w' := by
  have HK : Hid (x.c.k = 4) := Lib.hid hk
  clear hk
  unfold envA at HA
  have u0 : (qu == 0) = false := by rw [beq_eq_false_iff_ne]; exact hu
  have u1 : (qu != 0) = true := by rw [bne, u0]; rfl
  clear hu
  obtain ⟨mp, ba, bl, bc⟩ := v
  unfold envA
  simp only at HA
  have HE := Lib.hid hE
  have m0 := hE.c0
  have m1 := hE.c1
  have m2 := hE.c2
  have m3 := hE.c3
  have m4 := hE.c4
  have m5 := hE.c5
  have m6 := hE.c6
  have hj0 : (0 : Int) ≤ (j : Int) := by omega
  have hj1 : (j : Int) < (len : Int) := by omega
  have hg0 : g ≠ w.heap.size := by have := hE.lt; omega
  clear hE
  simp only
  go_enter Try.func16, Try.ntmps16
  go_upto_region 1 with fail
  refine at_world (fun W => Below w.heap.size w W ∧ W.heap.size = w.heap.size + 1 ∧ Bx6 W w.heap.size ⟨mp, ba, bl, bc⟩ o res t ∧ BxC W g (j * 7) x) ⟨(by repeat' (first | exact Below.refl _ _ | (refine Below.alloc ?_ ?_ _) | (refine Below.setCell ?_ ?_ _) | (refine Below.drew ?_) | (refine below_next ?_ ?_ (by assumption)) | omega | (simp; done) | (simp; omega))), by simp, ⟨by first | (simp; done) | (simp; omega), by simp [go_sem], by simp [go_sem], by simp [go_sem], by simp [go_sem], by simp [go_sem], by simp [go_sem]⟩, HE.out.below (by repeat' (first | exact Below.refl _ _ | (refine Below.alloc ?_ ?_ _) | (refine Below.setCell ?_ ?_ _) | (refine Below.drew ?_) | (refine below_next ?_ ?_ (by assumption)) | omega | (simp; done) | (simp; omega)))⟩ ?_
  rintro W0 ⟨hb0, hz0, B6, BE⟩
  clear m0 m1 m2 m3 m4 m5 m6
  have m0 := BE.c0
  have m1 := BE.c1
  have m2 := BE.c2
  have m3 := BE.c3
  have m4 := BE.c4
  have m5 := BE.c5
  have m6 := BE.c6
  go_upto_region 4 with fail
  refine at_world (fun W => TsI w W x ⟨mp, ba, bl, bc⟩ o res t) ⟨below_next hb0 hb0.size (by repeat' (first | exact Below.refl _ _ | (refine Below.alloc ?_ ?_ _) | (refine Below.setCell ?_ ?_ _) | (refine Below.drew ?_) | (refine below_next ?_ ?_ (by assumption)) | omega | (simp; done) | (simp; omega))), B6.below (by repeat' (first | exact Below.refl _ _ | (refine Below.alloc ?_ ?_ _) | (refine Below.setCell ?_ ?_ _) | (refine Below.drew ?_) | (refine below_next ?_ ?_ (by assumption)) | omega | (simp; done) | (simp; omega))), by rw [← hz0]; exact ⟨by first | (simp; done) | (simp; omega), by simp [go_sem], by simp [go_sem], by simp [go_sem], by simp [go_sem], by simp [go_sem], by simp [go_sem], by simp [go_sem]⟩⟩ ?_
  intro W1 N1
  (try simp only [hz0])
  clear m0 m1 m2 m3 m4 m5 m6 hb0 hz0 B6 BE
  have N := Lib.hid N1
  have n0 := (N1.bc).c0; have n1 := (N1.bc).box1; have n2 := (N1.bc).box2; have n3 := (N1.bc).box3; have n4 := (N1.bc).box4; have n5 := (N1.bc).box5; have n6 := (N1.bc).box6; have e0 := (N1.b6).c0; have e1 := (N1.b6).c1; have e2 := (N1.b6).c2; have e3 := (N1.b6).c3; have e4 := (N1.b6).c4; have e5 := (N1.b6).c5
  clear N1
  rw [HK.out] at n0
  go_wp2_with (go_at_call 16; refine (HA _ N.out.hb).mono ?_; rintro e' w5 ⟨rfl, hb5⟩; have N := Lib.hid (N.out.below hb5); have n0 := (N.out.bc).c0; have n1 := (N.out.bc).box1; have n2 := (N.out.bc).box2; have n3 := (N.out.bc).box3; have n4 := (N.out.bc).box4; have n5 := (N.out.bc).box5; have n6 := (N.out.bc).box6; have e0 := (N.out.b6).c0; have e1 := (N.out.b6).c1; have e2 := (N.out.b6).c2; have e3 := (N.out.b6).c3; have e4 := (N.out.b6).c4; have e5 := (N.out.b6).c5; rw [HK.out] at n0; clear hb5 HA)
  go_ret3
  exact ⟨rfl, N.out.hb⟩
set_option maxRecDepth 100000 in
set_option maxHeartbeats 6400000 in
theorem ts_none (x : Cv) (v o : NV) (res t : Int) (g len cc j : Nat) (w : World) (hj : j < len) (hE : BxC w g (j * 7) x) (h1 : x.c.k ≠ 1) (h2 : x.c.k ≠ 2) (h3 : x.c.k ≠ 3) (h4 : x.c.k ≠ 4) :
    Calls Try.prog 16 #[.slice (some ⟨g, 0, none⟩) len cc, .int .i64 (j : Int), envA v o res t] w fun e' w' => e' = .returned (.tuple #[.bool false, .int .i64 0, .int .i64 0]) ∧ Below w.heap.size w w' := by
  have k1 : (x.c.k == 1) = false := by rw [beq_eq_false_iff_ne]; omega
  have k2 : (x.c.k == 2) = false := by rw [beq_eq_false_iff_ne]; omega
  have k3 : (x.c.k == 3) = false := by rw [beq_eq_false_iff_ne]; omega
  have k4 : (x.c.k == 4) = false := by rw [beq_eq_false_iff_ne]; omega
  obtain ⟨kk, hkk⟩ : ∃ k, x.c.k = k := ⟨_, rfl⟩
  rw [hkk] at k1 k2 k3 k4
  have HK := Lib.hid hkk
  clear hkk h1 h2 h3 h4
  obtain ⟨mp, ba, bl, bc⟩ := v
  unfold envA
  have HE := Lib.hid hE
  have m0 := hE.c0
  have m1 := hE.c1
  have m2 := hE.c2
  have m3 := hE.c3
  have m4 := hE.c4
  have m5 := hE.c5
  have m6 := hE.c6
  have hj0 : (0 : Int) ≤ (j : Int) := by omega
  have hj1 : (j : Int) < (len : Int) := by omega
  have hg0 : g ≠ w.heap.size := by have := hE.lt; omega
  clear hE
  simp only
  go_enter Try.func16, Try.ntmps16
  go_upto_region 1 with fail
  refine at_world (fun W => Below w.heap.size w W ∧ W.heap.size = w.heap.size + 1 ∧ Bx6 W w.heap.size ⟨mp, ba, bl, bc⟩ o res t ∧ BxC W g (j * 7) x) ⟨(by repeat' (first | exact Below.refl _ _ | (refine Below.alloc ?_ ?_ _) | (refine Below.setCell ?_ ?_ _) | (refine Below.drew ?_) | (refine below_next ?_ ?_ (by assumption)) | omega | (simp; done) | (simp; omega))), by simp, ⟨by first | (simp; done) | (simp; omega), by simp [go_sem], by simp [go_sem], by simp [go_sem], by simp [go_sem], by simp [go_sem], by simp [go_sem]⟩, HE.out.below (by repeat' (first | exact Below.refl _ _ | (refine Below.alloc ?_ ?_ _) | (refine Below.setCell ?_ ?_ _) | (refine Below.drew ?_) | (refine below_next ?_ ?_ (by assumption)) | omega | (simp; done) | (simp; omega)))⟩ ?_
  rintro W0 ⟨hb0, hz0, B6, BE⟩
  clear m0 m1 m2 m3 m4 m5 m6
  have m0 := BE.c0
  have m1 := BE.c1
  have m2 := BE.c2
  have m3 := BE.c3
  have m4 := BE.c4
  have m5 := BE.c5
  have m6 := BE.c6
  go_upto_region 4 with fail
  refine at_world (fun W => TsI w W x ⟨mp, ba, bl, bc⟩ o res t) ⟨below_next hb0 hb0.size (by repeat' (first | exact Below.refl _ _ | (refine Below.alloc ?_ ?_ _) | (refine Below.setCell ?_ ?_ _) | (refine Below.drew ?_) | (refine below_next ?_ ?_ (by assumption)) | omega | (simp; done) | (simp; omega))), B6.below (by repeat' (first | exact Below.refl _ _ | (refine Below.alloc ?_ ?_ _) | (refine Below.setCell ?_ ?_ _) | (refine Below.drew ?_) | (refine below_next ?_ ?_ (by assumption)) | omega | (simp; done) | (simp; omega))), by rw [← hz0]; exact ⟨by first | (simp; done) | (simp; omega), by simp [go_sem], by simp [go_sem], by simp [go_sem], by simp [go_sem], by simp [go_sem], by simp [go_sem], by simp [go_sem]⟩⟩ ?_
  intro W1 N1
  (try simp only [hz0])
  clear m0 m1 m2 m3 m4 m5 m6 hb0 hz0 B6 BE
  have N := Lib.hid N1
  have n0 := (N1.bc).c0; have n1 := (N1.bc).box1; have n2 := (N1.bc).box2; have n3 := (N1.bc).box3; have n4 := (N1.bc).box4; have n5 := (N1.bc).box5; have n6 := (N1.bc).box6; have e0 := (N1.b6).c0; have e1 := (N1.b6).c1; have e2 := (N1.b6).c2; have e3 := (N1.b6).c3; have e4 := (N1.b6).c4; have e5 := (N1.b6).c5
  clear N1
  rw [HK.out] at n0
  go_wp2_with fail
  go_ret3
  exact ⟨rfl, N.out.hb⟩
set_option maxRecDepth 100000 in
set_option maxHeartbeats 6400000 in
theorem ts_out (v o : NV) (res t at_ : Int) (A : Option Addr) (len cc : Nat) (w : World) (h : at_ < 0 ∨ (len : Int) ≤ at_) :
    Calls Try.prog 16 #[.slice A len cc, .int .i64 at_, envA v o res t] w fun e' w' => e' = .returned (.tuple #[.bool false, .int .i64 0, .int .i64 0]) ∧ Below w.heap.size w w' := by
  unfold envA
  rcases (by omega : at_ < 0 ∨ (0 ≤ at_ ∧ (len : Int) ≤ at_)) with h1 | ⟨h1, h2⟩
  · clear h
    go_enter Try.func16, Try.ntmps16
    go_wp2_with fail
    go_ret3
    exact ⟨rfl, (by repeat' (first | exact Below.refl _ _ | (refine Below.alloc ?_ ?_ _) | (refine Below.setCell ?_ ?_ _) | (refine Below.drew ?_) | (refine below_next ?_ ?_ (by assumption)) | omega | (simp; done) | (simp; omega)))⟩
  · have g0 : decide (at_ < 0) = false := decide_eq_false (by omega)
    clear h
    go_enter Try.func16, Try.ntmps16
    go_wp2_with fail
    go_ret3
    exact ⟨rfl, (by repeat' (first | exact Below.refl _ _ | (refine Below.alloc ?_ ?_ _) | (refine Below.setCell ?_ ?_ _) | (refine Below.drew ?_) | (refine below_next ?_ ?_ (by assumption)) | omega | (simp; done) | (simp; omega)))⟩
end Go.Proofs.Ytlhenpocaagbjaa.C

namespace Go.Proofs.Ytlhenpocaagbjaa.C
open Go.RowKit
set_option linter.unusedSimpArgs false
set_option linter.unusedVariables false
set_option maxRecDepth 100000 in
set_option maxHeartbeats 6400000 in
theorem rt_rel1 (x : Cv) (v o : NV) (res t : Int) (g len cc j : Nat) (w : World) (hj : j < len) (hE : BxC w g (j * 7) x) (hk : x.c.k = 1) (lx ly : Nat) (hlx : x.c.x.length = lx) (hly : x.c.y.length = ly) (hx3 : lx ≤ 300000) (hy3 : ly ≤ 300000) (a b : Gt) (HA : ∀ W, Below w.heap.size w W → Calls Try.prog 25 #[.slice x.ax lx x.cx, .int .i64 ((lx : Int) - 1), envA v o res t] W fun e' w' => e' = .returned (gtV a) ∧ Below W.heap.size W w') (HB : ∀ W, Below w.heap.size w W → Calls Try.prog 25 #[.slice x.ay ly x.cy, .int .i64 ((ly : Int) - 1), envA v o res t] W fun e' w' => e' = .returned (gtV b) ∧ Below W.heap.size W w') (hu : a.ub ≠ 0) :
    Calls Try.prog 17 #[.slice (some ⟨g, 0, none⟩) len cc, .int .i64 (j : Int), envA v o res t] w fun e' w' => e' = .returned (.tuple #[.bool false, .int .i64 a.ub, .int .i64 a.at_]) ∧ Below w.heap.size w w' := by
  have HK : Hid (x.c.k = 1) := Lib.hid hk
  clear hk
  have ex1 : IntKind.i64.wrap ((lx : Int) - 1) = (lx : Int) - 1 := IntWalk.i64_in _ (by omega)
  have ey1 : IntKind.i64.wrap ((ly : Int) - 1) = (ly : Int) - 1 := IntWalk.i64_in _ (by omega)
  have HLX := Lib.hid (And.intro hlx hly)
  clear hlx hly
  unfold envA gtV at HA HB
  have u0 : (a.ub == 0) = false := by rw [beq_eq_false_iff_ne]; exact hu
  have u1 : (a.ub != 0) = true := by rw [bne, u0]; rfl
  clear hu
  obtain ⟨mp, ba, bl, bc⟩ := v
  unfold envA
  simp only at HA HB
  have HE := Lib.hid hE
  have m0 := hE.c0
  have m1 := hE.c1
  have m2 := hE.c2
  have m3 := hE.c3
  have m4 := hE.c4
  have m5 := hE.c5
  have m6 := hE.c6
  have hj0 : (0 : Int) ≤ (j : Int) := by omega
  have hj1 : (j : Int) < (len : Int) := by omega
  have hg0 : g ≠ w.heap.size := by have := hE.lt; omega
  clear hE
  simp only
  go_enter Try.func17, Try.ntmps17
  go_upto_region 1 with fail
  refine at_world (fun W => Below w.heap.size w W ∧ W.heap.size = w.heap.size + 1 ∧ Bx6 W w.heap.size ⟨mp, ba, bl, bc⟩ o res t ∧ BxC W g (j * 7) x) ⟨(by repeat' (first | exact Below.refl _ _ | (refine Below.alloc ?_ ?_ _) | (refine Below.setCell ?_ ?_ _) | (refine Below.drew ?_) | (refine below_next ?_ ?_ (by assumption)) | omega | (simp; done) | (simp; omega))), by simp, ⟨by first | (simp; done) | (simp; omega), by simp [go_sem], by simp [go_sem], by simp [go_sem], by simp [go_sem], by simp [go_sem], by simp [go_sem]⟩, HE.out.below (by repeat' (first | exact Below.refl _ _ | (refine Below.alloc ?_ ?_ _) | (refine Below.setCell ?_ ?_ _) | (refine Below.drew ?_) | (refine below_next ?_ ?_ (by assumption)) | omega | (simp; done) | (simp; omega)))⟩ ?_
  rintro W0 ⟨hb0, hz0, B6, BE⟩
  clear m0 m1 m2 m3 m4 m5 m6
  have m0 := BE.c0
  have m1 := BE.c1
  have m2 := BE.c2
  have m3 := BE.c3
  have m4 := BE.c4
  have m5 := BE.c5
  have m6 := BE.c6
  go_upto_region 4 with fail
  refine at_world (fun W => TsI w W x ⟨mp, ba, bl, bc⟩ o res t) ⟨below_next hb0 hb0.size (by repeat' (first | exact Below.refl _ _ | (refine Below.alloc ?_ ?_ _) | (refine Below.setCell ?_ ?_ _) | (refine Below.drew ?_) | (refine below_next ?_ ?_ (by assumption)) | omega | (simp; done) | (simp; omega))), B6.below (by repeat' (first | exact Below.refl _ _ | (refine Below.alloc ?_ ?_ _) | (refine Below.setCell ?_ ?_ _) | (refine Below.drew ?_) | (refine below_next ?_ ?_ (by assumption)) | omega | (simp; done) | (simp; omega))), by rw [← hz0]; exact ⟨by first | (simp; done) | (simp; omega), by simp [go_sem], by simp [go_sem], by simp [go_sem], by simp [go_sem], by simp [go_sem], by simp [go_sem], by simp [go_sem]⟩⟩ ?_
  intro W1 N1
  (try simp only [hz0])
  clear m0 m1 m2 m3 m4 m5 m6 hb0 hz0 B6 BE
  have N := Lib.hid N1
  have n0 := (N1.bc).c0; have n1 := (N1.bc).box1; have n2 := (N1.bc).box2; have n3 := (N1.bc).box3; have n4 := (N1.bc).box4; have n5 := (N1.bc).box5; have n6 := (N1.bc).box6; have e0 := (N1.b6).c0; have e1 := (N1.b6).c1; have e2 := (N1.b6).c2; have e3 := (N1.b6).c3; have e4 := (N1.b6).c4; have e5 := (N1.b6).c5
  clear N1
  rw [HK.out] at n0
  rw [HLX.out.1] at n2
  rw [HLX.out.2] at n3
  go_upto_region 7 with (go_at_call 25; refine (HA _ N.out.hb).mono ?_; rintro e' w5 ⟨rfl, hb5⟩; have N := Lib.hid (N.out.below hb5); clear hb5 HA)
  refine at_world (fun W => TsI w W x ⟨mp, ba, bl, bc⟩ o res t ∧ Bx4 W w5.heap.size a) ⟨N.out.below (by repeat' (first | exact Below.refl _ _ | (refine Below.alloc ?_ ?_ _) | (refine Below.setCell ?_ ?_ _) | (refine Below.drew ?_) | (refine below_next ?_ ?_ (by assumption)) | omega | (simp; done) | (simp; omega))), ⟨by first | (simp; done) | (simp; omega), by simp [go_sem], by simp [go_sem], by simp [go_sem], by simp [go_sem], by simp [go_sem], by simp [go_sem], by simp [go_sem], by simp [go_sem]⟩⟩ ?_
  rintro W6 ⟨N6, A6⟩
  obtain ⟨D3, hD3⟩ : ∃ x, w5.heap.size = x := ⟨_, rfl⟩
  simp only [hD3] at A6 ⊢
  clear hD3 N n0 n1 n2 n3 n4 n5 n6 e0 e1 e2 e3 e4 e5
  have N := Lib.hid N6
  have AA := Lib.hid A6
  have n0 := (N6.bc).c0; have n1 := (N6.bc).box1; have n2 := (N6.bc).box2; have n3 := (N6.bc).box3; have n4 := (N6.bc).box4; have n5 := (N6.bc).box5; have n6 := (N6.bc).box6; have e0 := (N6.b6).c0; have e1 := (N6.b6).c1; have e2 := (N6.b6).c2; have e3 := (N6.b6).c3; have e4 := (N6.b6).c4; have e5 := (N6.b6).c5
  have x0 := (A6).c0; have x1 := (A6).c1; have x2 := (A6).c2; have x3 := (A6).c3; have xf0 := (A6).f0; have xf1 := (A6).f1; have xf2 := (A6).f2; have xf3 := (A6).f3
  clear N6 A6
  rw [HK.out] at n0
  rw [HLX.out.1] at n2
  rw [HLX.out.2] at n3
  go_upto_region 8 with fail
  have d0 := fun (x' : WIn (Below W6.heap.size W6)) => cell_later x'.h x2
  have d1 := fun (x' : WIn (Below W6.heap.size W6)) => cell_later x'.h x3
  refine region_in (Below W6.heap.size W6) (by kernel_rfl) (by kernel_rfl) (Below.refl _ _).drew (fun inst => ?_)
  iterate 7 (go_big_quiet_step (fail))
  refine wpQuiet_nil ?_
  intro wd hbd
  have hbz := below_next N.out.hb N.out.hb.size hbd
  go_wp2_with fail
  go_ret3
  exact ⟨rfl, hbz⟩
set_option maxRecDepth 100000 in
set_option maxHeartbeats 6400000 in
theorem rt_rel2 (x : Cv) (v o : NV) (res t : Int) (g len cc j : Nat) (w : World) (hj : j < len) (hE : BxC w g (j * 7) x) (hk : x.c.k = 1) (lx ly : Nat) (hlx : x.c.x.length = lx) (hly : x.c.y.length = ly) (hx3 : lx ≤ 300000) (hy3 : ly ≤ 300000) (a b : Gt) (HA : ∀ W, Below w.heap.size w W → Calls Try.prog 25 #[.slice x.ax lx x.cx, .int .i64 ((lx : Int) - 1), envA v o res t] W fun e' w' => e' = .returned (gtV a) ∧ Below W.heap.size W w') (HB : ∀ W, Below w.heap.size w W → Calls Try.prog 25 #[.slice x.ay ly x.cy, .int .i64 ((ly : Int) - 1), envA v o res t] W fun e' w' => e' = .returned (gtV b) ∧ Below W.heap.size W w') (hz : a.ub = 0) (hu : b.ub ≠ 0) :
    Calls Try.prog 17 #[.slice (some ⟨g, 0, none⟩) len cc, .int .i64 (j : Int), envA v o res t] w fun e' w' => e' = .returned (.tuple #[.bool false, .int .i64 b.ub, .int .i64 b.at_]) ∧ Below w.heap.size w w' := by
  have HK : Hid (x.c.k = 1) := Lib.hid hk
  clear hk
  have ex1 : IntKind.i64.wrap ((lx : Int) - 1) = (lx : Int) - 1 := IntWalk.i64_in _ (by omega)
  have ey1 : IntKind.i64.wrap ((ly : Int) - 1) = (ly : Int) - 1 := IntWalk.i64_in _ (by omega)
  have HLX := Lib.hid (And.intro hlx hly)
  clear hlx hly
  unfold envA gtV at HA HB
  have u0 : (b.ub == 0) = false := by rw [beq_eq_false_iff_ne]; exact hu
  have u1 : (b.ub != 0) = true := by rw [bne, u0]; rfl
  clear hu
  have HZ := Lib.hid hz
  clear hz
  obtain ⟨mp, ba, bl, bc⟩ := v
  unfold envA
  simp only at HA HB
  have HE := Lib.hid hE
  have m0 := hE.c0
  have m1 := hE.c1
  have m2 := hE.c2
  have m3 := hE.c3
  have m4 := hE.c4
  have m5 := hE.c5
  have m6 := hE.c6
  have hj0 : (0 : Int) ≤ (j : Int) := by omega
  have hj1 : (j : Int) < (len : Int) := by omega
  have hg0 : g ≠ w.heap.size := by have := hE.lt; omega
  clear hE
  simp only
  go_enter Try.func17, Try.ntmps17
  go_upto_region 1 with fail
  refine at_world (fun W => Below w.heap.size w W ∧ W.heap.size = w.heap.size + 1 ∧ Bx6 W w.heap.size ⟨mp, ba, bl, bc⟩ o res t ∧ BxC W g (j * 7) x) ⟨(by repeat' (first | exact Below.refl _ _ | (refine Below.alloc ?_ ?_ _) | (refine Below.setCell ?_ ?_ _) | (refine Below.drew ?_) | (refine below_next ?_ ?_ (by assumption)) | omega | (simp; done) | (simp; omega))), by simp, ⟨by first | (simp; done) | (simp; omega), by simp [go_sem], by simp [go_sem], by simp [go_sem], by simp [go_sem], by simp [go_sem], by simp [go_sem]⟩, HE.out.below (by repeat' (first | exact Below.refl _ _ | (refine Below.alloc ?_ ?_ _) | (refine Below.setCell ?_ ?_ _) | (refine Below.drew ?_) | (refine below_next ?_ ?_ (by assumption)) | omega | (simp; done) | (simp; omega)))⟩ ?_
  rintro W0 ⟨hb0, hz0, B6, BE⟩
  clear m0 m1 m2 m3 m4 m5 m6
  have m0 := BE.c0
  have m1 := BE.c1
  have m2 := BE.c2
  have m3 := BE.c3
  have m4 := BE.c4
  have m5 := BE.c5
  have m6 := BE.c6
  go_upto_region 4 with fail
  refine at_world (fun W => TsI w W x ⟨mp, ba, bl, bc⟩ o res t) ⟨below_next hb0 hb0.size (by repeat' (first | exact Below.refl _ _ | (refine Below.alloc ?_ ?_ _) | (refine Below.setCell ?_ ?_ _) | (refine Below.drew ?_) | (refine below_next ?_ ?_ (by assumption)) | omega | (simp; done) | (simp; omega))), B6.below (by repeat' (first | exact Below.refl _ _ | (refine Below.alloc ?_ ?_ _) | (refine Below.setCell ?_ ?_ _) | (refine Below.drew ?_) | (refine below_next ?_ ?_ (by assumption)) | omega | (simp; done) | (simp; omega))), by rw [← hz0]; exact ⟨by first | (simp; done) | (simp; omega), by simp [go_sem], by simp [go_sem], by simp [go_sem], by simp [go_sem], by simp [go_sem], by simp [go_sem], by simp [go_sem]⟩⟩ ?_
  intro W1 N1
  (try simp only [hz0])
  clear m0 m1 m2 m3 m4 m5 m6 hb0 hz0 B6 BE
  have N := Lib.hid N1
  have n0 := (N1.bc).c0; have n1 := (N1.bc).box1; have n2 := (N1.bc).box2; have n3 := (N1.bc).box3; have n4 := (N1.bc).box4; have n5 := (N1.bc).box5; have n6 := (N1.bc).box6; have e0 := (N1.b6).c0; have e1 := (N1.b6).c1; have e2 := (N1.b6).c2; have e3 := (N1.b6).c3; have e4 := (N1.b6).c4; have e5 := (N1.b6).c5
  clear N1
  rw [HK.out] at n0
  rw [HLX.out.1] at n2
  rw [HLX.out.2] at n3
  go_upto_region 7 with (go_at_call 25; refine (HA _ N.out.hb).mono ?_; rintro e' w5 ⟨rfl, hb5⟩; have N := Lib.hid (N.out.below hb5); clear hb5 HA)
  refine at_world (fun W => TsI w W x ⟨mp, ba, bl, bc⟩ o res t ∧ Bx4 W w5.heap.size a) ⟨N.out.below (by repeat' (first | exact Below.refl _ _ | (refine Below.alloc ?_ ?_ _) | (refine Below.setCell ?_ ?_ _) | (refine Below.drew ?_) | (refine below_next ?_ ?_ (by assumption)) | omega | (simp; done) | (simp; omega))), ⟨by first | (simp; done) | (simp; omega), by simp [go_sem], by simp [go_sem], by simp [go_sem], by simp [go_sem], by simp [go_sem], by simp [go_sem], by simp [go_sem], by simp [go_sem]⟩⟩ ?_
  rintro W6 ⟨N6, A6⟩
  obtain ⟨D3, hD3⟩ : ∃ x, w5.heap.size = x := ⟨_, rfl⟩
  simp only [hD3] at A6 ⊢
  clear hD3 N n0 n1 n2 n3 n4 n5 n6 e0 e1 e2 e3 e4 e5
  have N := Lib.hid N6
  have AA := Lib.hid A6
  have n0 := (N6.bc).c0; have n1 := (N6.bc).box1; have n2 := (N6.bc).box2; have n3 := (N6.bc).box3; have n4 := (N6.bc).box4; have n5 := (N6.bc).box5; have n6 := (N6.bc).box6; have e0 := (N6.b6).c0; have e1 := (N6.b6).c1; have e2 := (N6.b6).c2; have e3 := (N6.b6).c3; have e4 := (N6.b6).c4; have e5 := (N6.b6).c5
  have x0 := (A6).c0; have x1 := (A6).c1; have x2 := (A6).c2; have x3 := (A6).c3; have xf0 := (A6).f0; have xf1 := (A6).f1; have xf2 := (A6).f2; have xf3 := (A6).f3
  clear N6 A6
  rw [HK.out] at n0
  rw [HLX.out.1] at n2
  rw [HLX.out.2] at n3
  rw [HZ.out] at x2
  go_upto_region 10 with (go_at_call 25; refine (HB _ N.out.hb).mono ?_; rintro e' w7 ⟨rfl, hb7⟩; have N := Lib.hid (N.out.below hb7); have AA := Lib.hid (AA.out.below hb7); clear hb7 HB)
  refine at_world (fun W => TsI w W x ⟨mp, ba, bl, bc⟩ o res t ∧ Bx4 W D3 a ∧ Bx4 W w7.heap.size b) ⟨N.out.below (by repeat' (first | exact Below.refl _ _ | (refine Below.alloc ?_ ?_ _) | (refine Below.setCell ?_ ?_ _) | (refine Below.drew ?_) | (refine below_next ?_ ?_ (by assumption)) | omega | (simp; done) | (simp; omega))), AA.out.below (by repeat' (first | exact Below.refl _ _ | (refine Below.alloc ?_ ?_ _) | (refine Below.setCell ?_ ?_ _) | (refine Below.drew ?_) | (refine below_next ?_ ?_ (by assumption)) | omega | (simp; done) | (simp; omega))), ⟨by first | (simp; done) | (simp; omega), by simp [go_sem], by simp [go_sem], by simp [go_sem], by simp [go_sem], by simp [go_sem], by simp [go_sem], by simp [go_sem], by simp [go_sem]⟩⟩ ?_
  rintro W8 ⟨N8, A8, B8⟩
  obtain ⟨D4, hD4⟩ : ∃ x, w7.heap.size = x := ⟨_, rfl⟩
  simp only [hD4] at B8 ⊢
  clear hD4 N AA n0 n1 n2 n3 n4 n5 n6 e0 e1 e2 e3 e4 e5 x0 xf0 x1 xf1 x2 xf2 x3 xf3
  have N := Lib.hid N8
  have n0 := (N8.bc).c0; have n1 := (N8.bc).box1; have n2 := (N8.bc).box2; have n3 := (N8.bc).box3; have n4 := (N8.bc).box4; have n5 := (N8.bc).box5; have n6 := (N8.bc).box6; have e0 := (N8.b6).c0; have e1 := (N8.b6).c1; have e2 := (N8.b6).c2; have e3 := (N8.b6).c3; have e4 := (N8.b6).c4; have e5 := (N8.b6).c5
  have x0 := (A8).c0; have x1 := (A8).c1; have x2 := (A8).c2; have x3 := (A8).c3; have xf0 := (A8).f0; have xf1 := (A8).f1; have xf2 := (A8).f2; have xf3 := (A8).f3
  have y0 := (B8).c0; have y1 := (B8).c1; have y2 := (B8).c2; have y3 := (B8).c3; have yf0 := (B8).f0; have yf1 := (B8).f1; have yf2 := (B8).f2; have yf3 := (B8).f3
  clear N8 A8 B8
  rw [HK.out] at n0
  go_upto_region 11 with fail
  have d0 := fun (x' : WIn (Below W8.heap.size W8)) => cell_later x'.h y2
  have d1 := fun (x' : WIn (Below W8.heap.size W8)) => cell_later x'.h y3
  refine region_in (Below W8.heap.size W8) (by kernel_rfl) (by kernel_rfl) (Below.refl _ _).drew (fun inst => ?_)
  iterate 7 (go_big_quiet_step (fail))
  refine wpQuiet_nil ?_
  intro wd hbd
  have hbz := below_next N.out.hb N.out.hb.size hbd
  go_wp2_with fail
  go_ret3
  exact ⟨rfl, hbz⟩
set_option maxRecDepth 100000 in
set_option maxHeartbeats 6400000 in
theorem rt_rel3 (x : Cv) (v o : NV) (res t : Int) (g len cc j : Nat) (w : World) (hj : j < len) (hE : BxC w g (j * 7) x) (hk : x.c.k = 1) (lx ly : Nat) (hlx : x.c.x.length = lx) (hly : x.c.y.length = ly) (hx3 : lx ≤ 300000) (hy3 : ly ≤ 300000) (a b : Gt) (HA : ∀ W, Below w.heap.size w W → Calls Try.prog 25 #[.slice x.ax lx x.cx, .int .i64 ((lx : Int) - 1), envA v o res t] W fun e' w' => e' = .returned (gtV a) ∧ Below W.heap.size W w') (HB : ∀ W, Below w.heap.size w W → Calls Try.prog 25 #[.slice x.ay ly x.cy, .int .i64 ((ly : Int) - 1), envA v o res t] W fun e' w' => e' = .returned (gtV b) ∧ Below W.heap.size W w') (hz : a.ub = 0) (hz2 : b.ub = 0) (T xx yy : Int) (q : Bool) (hT : mixT 8 a.t b.t = T) (hxx : wrapT T a.v = xx) (hyy : wrapT T b.v = yy) (hq : relI x.c.rel xx yy = q) :
    Calls Try.prog 17 #[.slice (some ⟨g, 0, none⟩) len cc, .int .i64 (j : Int), envA v o res t] w fun e' w' => e' = .returned (.tuple #[.bool q, .int .i64 0, .int .i64 0]) ∧ Below w.heap.size w w' := by
  have HK : Hid (x.c.k = 1) := Lib.hid hk
  clear hk
  have ex1 : IntKind.i64.wrap ((lx : Int) - 1) = (lx : Int) - 1 := IntWalk.i64_in _ (by omega)
  have ey1 : IntKind.i64.wrap ((ly : Int) - 1) = (ly : Int) - 1 := IntWalk.i64_in _ (by omega)
  have HLX := Lib.hid (And.intro hlx hly)
  clear hlx hly
  unfold envA gtV at HA HB
  have MC : ∀ W, Calls Try.prog 32 #[.int .i64 8, .int .i64 a.t, .int .i64 b.t] W fun e w' => e = .returned (.int .i64 T) ∧ W = w' := fun W => by have := r_mixed_c 8 a.t b.t W (by omega); rwa [hT] at this
  have LX : ∀ W, Calls Try.prog 34 #[.int .i64 T, .int .i64 a.v] W fun e w' => e = .returned (.int .i64 xx) ∧ W = w' := fun W => by have := r_wrap_c T a.v W; rwa [hxx] at this
  have LY : ∀ W, Calls Try.prog 34 #[.int .i64 T, .int .i64 b.v] W fun e w' => e = .returned (.int .i64 yy) ∧ W = w' := fun W => by have := r_wrap_c T b.v W; rwa [hyy] at this
  have LR : ∀ W, Calls Try.prog 33 #[.int .i64 x.c.rel, .int .i64 xx, .int .i64 yy] W fun e w' => e = .returned (.bool q) ∧ W = w' := fun W => by have := r_rel_c x.c.rel xx yy W; rwa [hq] at this
  obtain ⟨av, hav⟩ : ∃ z, a.v = z := ⟨_, rfl⟩
  obtain ⟨bv, hbv⟩ : ∃ z, b.v = z := ⟨_, rfl⟩
  have HV := Lib.hid (And.intro hav hbv)
  rw [hav] at LX
  rw [hbv] at LY
  have HZ := Lib.hid (And.intro hz hz2)
  clear hz hz2 hav hbv hxx hyy hq hT
  obtain ⟨mp, ba, bl, bc⟩ := v
  unfold envA
  simp only at HA HB
  have HE := Lib.hid hE
  have m0 := hE.c0
  have m1 := hE.c1
  have m2 := hE.c2
  have m3 := hE.c3
  have m4 := hE.c4
  have m5 := hE.c5
  have m6 := hE.c6
  have hj0 : (0 : Int) ≤ (j : Int) := by omega
  have hj1 : (j : Int) < (len : Int) := by omega
  have hg0 : g ≠ w.heap.size := by have := hE.lt; omega
  clear hE
  simp only
  go_enter Try.func17, Try.ntmps17
  go_upto_region 1 with fail
  refine at_world (fun W => Below w.heap.size w W ∧ W.heap.size = w.heap.size + 1 ∧ Bx6 W w.heap.size ⟨mp, ba, bl, bc⟩ o res t ∧ BxC W g (j * 7) x) ⟨(by repeat' (first | exact Below.refl _ _ | (refine Below.alloc ?_ ?_ _) | (refine Below.setCell ?_ ?_ _) | (refine Below.drew ?_) | (refine below_next ?_ ?_ (by assumption)) | omega | (simp; done) | (simp; omega))), by simp, ⟨by first | (simp; done) | (simp; omega), by simp [go_sem], by simp [go_sem], by simp [go_sem], by simp [go_sem], by simp [go_sem], by simp [go_sem]⟩, HE.out.below (by repeat' (first | exact Below.refl _ _ | (refine Below.alloc ?_ ?_ _) | (refine Below.setCell ?_ ?_ _) | (refine Below.drew ?_) | (refine below_next ?_ ?_ (by assumption)) | omega | (simp; done) | (simp; omega)))⟩ ?_
  rintro W0 ⟨hb0, hz0, B6, BE⟩
  clear m0 m1 m2 m3 m4 m5 m6
  have m0 := BE.c0
  have m1 := BE.c1
  have m2 := BE.c2
  have m3 := BE.c3
  have m4 := BE.c4
  have m5 := BE.c5
  have m6 := BE.c6
  go_upto_region 4 with fail
  refine at_world (fun W => TsI w W x ⟨mp, ba, bl, bc⟩ o res t) ⟨below_next hb0 hb0.size (by repeat' (first | exact Below.refl _ _ | (refine Below.alloc ?_ ?_ _) | (refine Below.setCell ?_ ?_ _) | (refine Below.drew ?_) | (refine below_next ?_ ?_ (by assumption)) | omega | (simp; done) | (simp; omega))), B6.below (by repeat' (first | exact Below.refl _ _ | (refine Below.alloc ?_ ?_ _) | (refine Below.setCell ?_ ?_ _) | (refine Below.drew ?_) | (refine below_next ?_ ?_ (by assumption)) | omega | (simp; done) | (simp; omega))), by rw [← hz0]; exact ⟨by first | (simp; done) | (simp; omega), by simp [go_sem], by simp [go_sem], by simp [go_sem], by simp [go_sem], by simp [go_sem], by simp [go_sem], by simp [go_sem]⟩⟩ ?_
  intro W1 N1
  (try simp only [hz0])
  clear m0 m1 m2 m3 m4 m5 m6 hb0 hz0 B6 BE
  have N := Lib.hid N1
  have n0 := (N1.bc).c0; have n1 := (N1.bc).box1; have n2 := (N1.bc).box2; have n3 := (N1.bc).box3; have n4 := (N1.bc).box4; have n5 := (N1.bc).box5; have n6 := (N1.bc).box6; have e0 := (N1.b6).c0; have e1 := (N1.b6).c1; have e2 := (N1.b6).c2; have e3 := (N1.b6).c3; have e4 := (N1.b6).c4; have e5 := (N1.b6).c5
  clear N1
  rw [HK.out] at n0
  rw [HLX.out.1] at n2
  rw [HLX.out.2] at n3
  go_upto_region 7 with (go_at_call 25; refine (HA _ N.out.hb).mono ?_; rintro e' w5 ⟨rfl, hb5⟩; have N := Lib.hid (N.out.below hb5); clear hb5 HA)
  refine at_world (fun W => TsI w W x ⟨mp, ba, bl, bc⟩ o res t ∧ Bx4 W w5.heap.size a) ⟨N.out.below (by repeat' (first | exact Below.refl _ _ | (refine Below.alloc ?_ ?_ _) | (refine Below.setCell ?_ ?_ _) | (refine Below.drew ?_) | (refine below_next ?_ ?_ (by assumption)) | omega | (simp; done) | (simp; omega))), ⟨by first | (simp; done) | (simp; omega), by simp [go_sem], by simp [go_sem], by simp [go_sem], by simp [go_sem], by simp [go_sem], by simp [go_sem], by simp [go_sem], by simp [go_sem]⟩⟩ ?_
  rintro W6 ⟨N6, A6⟩
  obtain ⟨D3, hD3⟩ : ∃ x, w5.heap.size = x := ⟨_, rfl⟩
  simp only [hD3] at A6 ⊢
  clear hD3 N n0 n1 n2 n3 n4 n5 n6 e0 e1 e2 e3 e4 e5
  have N := Lib.hid N6
  have AA := Lib.hid A6
  have n0 := (N6.bc).c0; have n1 := (N6.bc).box1; have n2 := (N6.bc).box2; have n3 := (N6.bc).box3; have n4 := (N6.bc).box4; have n5 := (N6.bc).box5; have n6 := (N6.bc).box6; have e0 := (N6.b6).c0; have e1 := (N6.b6).c1; have e2 := (N6.b6).c2; have e3 := (N6.b6).c3; have e4 := (N6.b6).c4; have e5 := (N6.b6).c5
  have x0 := (A6).c0; have x1 := (A6).c1; have x2 := (A6).c2; have x3 := (A6).c3; have xf0 := (A6).f0; have xf1 := (A6).f1; have xf2 := (A6).f2; have xf3 := (A6).f3
  clear N6 A6
  rw [HK.out] at n0
  rw [HLX.out.1] at n2
  rw [HLX.out.2] at n3
  rw [HZ.out.1] at x2
  go_upto_region 10 with (go_at_call 25; refine (HB _ N.out.hb).mono ?_; rintro e' w7 ⟨rfl, hb7⟩; have N := Lib.hid (N.out.below hb7); have AA := Lib.hid (AA.out.below hb7); clear hb7 HB)
  refine at_world (fun W => TsI w W x ⟨mp, ba, bl, bc⟩ o res t ∧ Bx4 W D3 a ∧ Bx4 W w7.heap.size b) ⟨N.out.below (by repeat' (first | exact Below.refl _ _ | (refine Below.alloc ?_ ?_ _) | (refine Below.setCell ?_ ?_ _) | (refine Below.drew ?_) | (refine below_next ?_ ?_ (by assumption)) | omega | (simp; done) | (simp; omega))), AA.out.below (by repeat' (first | exact Below.refl _ _ | (refine Below.alloc ?_ ?_ _) | (refine Below.setCell ?_ ?_ _) | (refine Below.drew ?_) | (refine below_next ?_ ?_ (by assumption)) | omega | (simp; done) | (simp; omega))), ⟨by first | (simp; done) | (simp; omega), by simp [go_sem], by simp [go_sem], by simp [go_sem], by simp [go_sem], by simp [go_sem], by simp [go_sem], by simp [go_sem], by simp [go_sem]⟩⟩ ?_
  rintro W8 ⟨N8, A8, B8⟩
  obtain ⟨D4, hD4⟩ : ∃ x, w7.heap.size = x := ⟨_, rfl⟩
  simp only [hD4] at B8 ⊢
  clear hD4 N AA n0 n1 n2 n3 n4 n5 n6 e0 e1 e2 e3 e4 e5 x0 xf0 x1 xf1 x2 xf2 x3 xf3
  have N := Lib.hid N8
  have n0 := (N8.bc).c0; have n1 := (N8.bc).box1; have n2 := (N8.bc).box2; have n3 := (N8.bc).box3; have n4 := (N8.bc).box4; have n5 := (N8.bc).box5; have n6 := (N8.bc).box6; have e0 := (N8.b6).c0; have e1 := (N8.b6).c1; have e2 := (N8.b6).c2; have e3 := (N8.b6).c3; have e4 := (N8.b6).c4; have e5 := (N8.b6).c5
  have x0 := (A8).c0; have x1 := (A8).c1; have x2 := (A8).c2; have x3 := (A8).c3; have xf0 := (A8).f0; have xf1 := (A8).f1; have xf2 := (A8).f2; have xf3 := (A8).f3
  have y0 := (B8).c0; have y1 := (B8).c1; have y2 := (B8).c2; have y3 := (B8).c3; have yf0 := (B8).f0; have yf1 := (B8).f1; have yf2 := (B8).f2; have yf3 := (B8).f3
  clear N8 A8 B8
  rw [HK.out] at n0
  rw [HZ.out.1] at x2
  rw [HZ.out.2] at y2
  rw [HV.out.1] at x0
  rw [HV.out.2] at y0
  go_upto_region 13 with (go_at_call 32; refine (MC _).mono ?_; rintro e' w' ⟨rfl, rfl⟩; clear MC)
  have d0 := fun (x' : WIn (Below W8.heap.size W8)) => cell_later x'.h n1
  have d1 := fun (x' : WIn (Below W8.heap.size W8)) => cell_later x'.h x0
  have d2 := fun (x' : WIn (Below W8.heap.size W8)) => cell_later x'.h y0
  refine region_in (Below W8.heap.size W8) (by kernel_rfl) (by kernel_rfl) (Below.refl _ _).drew (fun inst => ?_)
  iterate 14 (go_big_quiet_step (first | (go_at_call 34; with_reducible exact call_same _ (LX _)) | (go_at_call 34; with_reducible exact call_same _ (LY _)) | (go_at_call 33; exact call_same _ (LR _))))
  refine wpQuiet_nil ?_
  intro wd hbd
  have hbz := below_next N.out.hb N.out.hb.size hbd
  go_wp2_with fail
  go_ret3
  exact ⟨rfl, hbz⟩
set_option maxRecDepth 100000 in
set_option maxHeartbeats 6400000 in
theorem rt_not (x : Cv) (v o : NV) (res t : Int) (g len cc j : Nat) (w : World) (hj : j < len) (hE : BxC w g (j * 7) x) (hk : x.c.k = 2) (qb : Bool) (qu qa : Int) (HA : ∀ W, Below w.heap.size w W → Calls Try.prog 17 #[.slice (some ⟨g, 0, none⟩) len cc, .int .i64 x.c.a, envA v o res t] W fun e' w' => e' = .returned (.tuple #[.bool qb, .int .i64 qu, .int .i64 qa]) ∧ Below W.heap.size W w')  :
    Calls Try.prog 17 #[.slice (some ⟨g, 0, none⟩) len cc, .int .i64 (j : Int), envA v o res t] w fun e' w' => e' = .returned (.tuple #[.bool (!qb && decide (qu = 0)), .int .i64 qu, .int .i64 qa]) ∧ Below w.heap.size w w' := by
  have HK : Hid (x.c.k = 2) := Lib.hid hk
  clear hk
  unfold envA at HA
  obtain ⟨z, hz⟩ : ∃ z, (!qb && decide (qu = 0)) = z := ⟨_, rfl⟩
  rw [hz]
  have HC : (qb = true ∧ z = false) ∨ (qb = false ∧ qu = 0 ∧ z = true) ∨ (qb = false ∧ (qu == 0) = false ∧ z = false) := by
    cases qb with
    | true => exact .inl ⟨rfl, by rw [← hz]; rfl⟩
    | false =>
      by_cases h : qu = 0
      · exact .inr (.inl ⟨rfl, h, by rw [← hz, h]; rfl⟩)
      · exact .inr (.inr ⟨rfl, by rw [beq_eq_false_iff_ne]; exact h, by rw [← hz, decide_eq_false h]; rfl⟩)
  clear hz
  rcases HC with ⟨rfl, rfl⟩ | ⟨rfl, rfl, rfl⟩ | ⟨rfl, u0, rfl⟩
  · obtain ⟨mp, ba, bl, bc⟩ := v
    unfold envA
    simp only at HA
    have HE := Lib.hid hE
    have m0 := hE.c0
    have m1 := hE.c1
    have m2 := hE.c2
    have m3 := hE.c3
    have m4 := hE.c4
    have m5 := hE.c5
    have m6 := hE.c6
    have hj0 : (0 : Int) ≤ (j : Int) := by omega
    have hj1 : (j : Int) < (len : Int) := by omega
    have hg0 : g ≠ w.heap.size := by have := hE.lt; omega
    clear hE
    simp only
    go_enter Try.func17, Try.ntmps17
    go_upto_region 1 with fail
    refine at_world (fun W => Below w.heap.size w W ∧ W.heap.size = w.heap.size + 1 ∧ Bx6 W w.heap.size ⟨mp, ba, bl, bc⟩ o res t ∧ BxC W g (j * 7) x) ⟨(by repeat' (first | exact Below.refl _ _ | (refine Below.alloc ?_ ?_ _) | (refine Below.setCell ?_ ?_ _) | (refine Below.drew ?_) | (refine below_next ?_ ?_ (by assumption)) | omega | (simp; done) | (simp; omega))), by simp, ⟨by first | (simp; done) | (simp; omega), by simp [go_sem], by simp [go_sem], by simp [go_sem], by simp [go_sem], by simp [go_sem], by simp [go_sem]⟩, HE.out.below (by repeat' (first | exact Below.refl _ _ | (refine Below.alloc ?_ ?_ _) | (refine Below.setCell ?_ ?_ _) | (refine Below.drew ?_) | (refine below_next ?_ ?_ (by assumption)) | omega | (simp; done) | (simp; omega)))⟩ ?_
    rintro W0 ⟨hb0, hz0, B6, BE⟩
    clear m0 m1 m2 m3 m4 m5 m6
    have m0 := BE.c0
    have m1 := BE.c1
    have m2 := BE.c2
    have m3 := BE.c3
    have m4 := BE.c4
    have m5 := BE.c5
    have m6 := BE.c6
    go_upto_region 4 with fail
    refine at_world (fun W => TsI w W x ⟨mp, ba, bl, bc⟩ o res t) ⟨below_next hb0 hb0.size (by repeat' (first | exact Below.refl _ _ | (refine Below.alloc ?_ ?_ _) | (refine Below.setCell ?_ ?_ _) | (refine Below.drew ?_) | (refine below_next ?_ ?_ (by assumption)) | omega | (simp; done) | (simp; omega))), B6.below (by repeat' (first | exact Below.refl _ _ | (refine Below.alloc ?_ ?_ _) | (refine Below.setCell ?_ ?_ _) | (refine Below.drew ?_) | (refine below_next ?_ ?_ (by assumption)) | omega | (simp; done) | (simp; omega))), by rw [← hz0]; exact ⟨by first | (simp; done) | (simp; omega), by simp [go_sem], by simp [go_sem], by simp [go_sem], by simp [go_sem], by simp [go_sem], by simp [go_sem], by simp [go_sem]⟩⟩ ?_
    intro W1 N1
    (try simp only [hz0])
    clear m0 m1 m2 m3 m4 m5 m6 hb0 hz0 B6 BE
    have N := Lib.hid N1
    have n0 := (N1.bc).c0; have n1 := (N1.bc).box1; have n2 := (N1.bc).box2; have n3 := (N1.bc).box3; have n4 := (N1.bc).box4; have n5 := (N1.bc).box5; have n6 := (N1.bc).box6; have e0 := (N1.b6).c0; have e1 := (N1.b6).c1; have e2 := (N1.b6).c2; have e3 := (N1.b6).c3; have e4 := (N1.b6).c4; have e5 := (N1.b6).c5
    clear N1
    rw [HK.out] at n0
    go_wp2_with (go_at_call 17; refine (HA _ N.out.hb).mono ?_; rintro e' w5 ⟨rfl, hb5⟩; have N := Lib.hid (N.out.below hb5); have n0 := (N.out.bc).c0; have n1 := (N.out.bc).box1; have n2 := (N.out.bc).box2; have n3 := (N.out.bc).box3; have n4 := (N.out.bc).box4; have n5 := (N.out.bc).box5; have n6 := (N.out.bc).box6; have e0 := (N.out.b6).c0; have e1 := (N.out.b6).c1; have e2 := (N.out.b6).c2; have e3 := (N.out.b6).c3; have e4 := (N.out.b6).c4; have e5 := (N.out.b6).c5; rw [HK.out] at n0; clear hb5 HA)
    go_ret3
    exact ⟨rfl, N.out.hb⟩
  · obtain ⟨mp, ba, bl, bc⟩ := v
    unfold envA
    simp only at HA
    have HE := Lib.hid hE
    have m0 := hE.c0
    have m1 := hE.c1
    have m2 := hE.c2
    have m3 := hE.c3
    have m4 := hE.c4
    have m5 := hE.c5
    have m6 := hE.c6
    have hj0 : (0 : Int) ≤ (j : Int) := by omega
    have hj1 : (j : Int) < (len : Int) := by omega
    have hg0 : g ≠ w.heap.size := by have := hE.lt; omega
    clear hE
    simp only
    go_enter Try.func17, Try.ntmps17
    go_upto_region 1 with fail
    refine at_world (fun W => Below w.heap.size w W ∧ W.heap.size = w.heap.size + 1 ∧ Bx6 W w.heap.size ⟨mp, ba, bl, bc⟩ o res t ∧ BxC W g (j * 7) x) ⟨(by repeat' (first | exact Below.refl _ _ | (refine Below.alloc ?_ ?_ _) | (refine Below.setCell ?_ ?_ _) | (refine Below.drew ?_) | (refine below_next ?_ ?_ (by assumption)) | omega | (simp; done) | (simp; omega))), by simp, ⟨by first | (simp; done) | (simp; omega), by simp [go_sem], by simp [go_sem], by simp [go_sem], by simp [go_sem], by simp [go_sem], by simp [go_sem]⟩, HE.out.below (by repeat' (first | exact Below.refl _ _ | (refine Below.alloc ?_ ?_ _) | (refine Below.setCell ?_ ?_ _) | (refine Below.drew ?_) | (refine below_next ?_ ?_ (by assumption)) | omega | (simp; done) | (simp; omega)))⟩ ?_
    rintro W0 ⟨hb0, hz0, B6, BE⟩
    clear m0 m1 m2 m3 m4 m5 m6
    have m0 := BE.c0
    have m1 := BE.c1
    have m2 := BE.c2
    have m3 := BE.c3
    have m4 := BE.c4
    have m5 := BE.c5
    have m6 := BE.c6
    go_upto_region 4 with fail
    refine at_world (fun W => TsI w W x ⟨mp, ba, bl, bc⟩ o res t) ⟨below_next hb0 hb0.size (by repeat' (first | exact Below.refl _ _ | (refine Below.alloc ?_ ?_ _) | (refine Below.setCell ?_ ?_ _) | (refine Below.drew ?_) | (refine below_next ?_ ?_ (by assumption)) | omega | (simp; done) | (simp; omega))), B6.below (by repeat' (first | exact Below.refl _ _ | (refine Below.alloc ?_ ?_ _) | (refine Below.setCell ?_ ?_ _) | (refine Below.drew ?_) | (refine below_next ?_ ?_ (by assumption)) | omega | (simp; done) | (simp; omega))), by rw [← hz0]; exact ⟨by first | (simp; done) | (simp; omega), by simp [go_sem], by simp [go_sem], by simp [go_sem], by simp [go_sem], by simp [go_sem], by simp [go_sem], by simp [go_sem]⟩⟩ ?_
    intro W1 N1
    (try simp only [hz0])
    clear m0 m1 m2 m3 m4 m5 m6 hb0 hz0 B6 BE
    have N := Lib.hid N1
    have n0 := (N1.bc).c0; have n1 := (N1.bc).box1; have n2 := (N1.bc).box2; have n3 := (N1.bc).box3; have n4 := (N1.bc).box4; have n5 := (N1.bc).box5; have n6 := (N1.bc).box6; have e0 := (N1.b6).c0; have e1 := (N1.b6).c1; have e2 := (N1.b6).c2; have e3 := (N1.b6).c3; have e4 := (N1.b6).c4; have e5 := (N1.b6).c5
    clear N1
    rw [HK.out] at n0
    go_wp2_with (go_at_call 17; refine (HA _ N.out.hb).mono ?_; rintro e' w5 ⟨rfl, hb5⟩; have N := Lib.hid (N.out.below hb5); have n0 := (N.out.bc).c0; have n1 := (N.out.bc).box1; have n2 := (N.out.bc).box2; have n3 := (N.out.bc).box3; have n4 := (N.out.bc).box4; have n5 := (N.out.bc).box5; have n6 := (N.out.bc).box6; have e0 := (N.out.b6).c0; have e1 := (N.out.b6).c1; have e2 := (N.out.b6).c2; have e3 := (N.out.b6).c3; have e4 := (N.out.b6).c4; have e5 := (N.out.b6).c5; rw [HK.out] at n0; clear hb5 HA)
    go_ret3
    exact ⟨rfl, N.out.hb⟩
  · obtain ⟨mp, ba, bl, bc⟩ := v
    unfold envA
    simp only at HA
    have HE := Lib.hid hE
    have m0 := hE.c0
    have m1 := hE.c1
    have m2 := hE.c2
    have m3 := hE.c3
    have m4 := hE.c4
    have m5 := hE.c5
    have m6 := hE.c6
    have hj0 : (0 : Int) ≤ (j : Int) := by omega
    have hj1 : (j : Int) < (len : Int) := by omega
    have hg0 : g ≠ w.heap.size := by have := hE.lt; omega
    clear hE
    simp only
    go_enter Try.func17, Try.ntmps17
    go_upto_region 1 with fail
    refine at_world (fun W => Below w.heap.size w W ∧ W.heap.size = w.heap.size + 1 ∧ Bx6 W w.heap.size ⟨mp, ba, bl, bc⟩ o res t ∧ BxC W g (j * 7) x) ⟨(by repeat' (first | exact Below.refl _ _ | (refine Below.alloc ?_ ?_ _) | (refine Below.setCell ?_ ?_ _) | (refine Below.drew ?_) | (refine below_next ?_ ?_ (by assumption)) | omega | (simp; done) | (simp; omega))), by simp, ⟨by first | (simp; done) | (simp; omega), by simp [go_sem], by simp [go_sem], by simp [go_sem], by simp [go_sem], by simp [go_sem], by simp [go_sem]⟩, HE.out.below (by repeat' (first | exact Below.refl _ _ | (refine Below.alloc ?_ ?_ _) | (refine Below.setCell ?_ ?_ _) | (refine Below.drew ?_) | (refine below_next ?_ ?_ (by assumption)) | omega | (simp; done) | (simp; omega)))⟩ ?_
    rintro W0 ⟨hb0, hz0, B6, BE⟩
    clear m0 m1 m2 m3 m4 m5 m6
    have m0 := BE.c0
    have m1 := BE.c1
    have m2 := BE.c2
    have m3 := BE.c3
    have m4 := BE.c4
    have m5 := BE.c5
    have m6 := BE.c6
    go_upto_region 4 with fail
    refine at_world (fun W => TsI w W x ⟨mp, ba, bl, bc⟩ o res t) ⟨below_next hb0 hb0.size (by repeat' (first | exact Below.refl _ _ | (refine Below.alloc ?_ ?_ _) | (refine Below.setCell ?_ ?_ _) | (refine Below.drew ?_) | (refine below_next ?_ ?_ (by assumption)) | omega | (simp; done) | (simp; omega))), B6.below (by repeat' (first | exact Below.refl _ _ | (refine Below.alloc ?_ ?_ _) | (refine Below.setCell ?_ ?_ _) | (refine Below.drew ?_) | (refine below_next ?_ ?_ (by assumption)) | omega | (simp; done) | (simp; omega))), by rw [← hz0]; exact ⟨by first | (simp; done) | (simp; omega), by simp [go_sem], by simp [go_sem], by simp [go_sem], by simp [go_sem], by simp [go_sem], by simp [go_sem], by simp [go_sem]⟩⟩ ?_
    intro W1 N1
    (try simp only [hz0])
    clear m0 m1 m2 m3 m4 m5 m6 hb0 hz0 B6 BE
    have N := Lib.hid N1
    have n0 := (N1.bc).c0; have n1 := (N1.bc).box1; have n2 := (N1.bc).box2; have n3 := (N1.bc).box3; have n4 := (N1.bc).box4; have n5 := (N1.bc).box5; have n6 := (N1.bc).box6; have e0 := (N1.b6).c0; have e1 := (N1.b6).c1; have e2 := (N1.b6).c2; have e3 := (N1.b6).c3; have e4 := (N1.b6).c4; have e5 := (N1.b6).c5
    clear N1
    rw [HK.out] at n0
    go_wp2_with (go_at_call 17; refine (HA _ N.out.hb).mono ?_; rintro e' w5 ⟨rfl, hb5⟩; have N := Lib.hid (N.out.below hb5); have n0 := (N.out.bc).c0; have n1 := (N.out.bc).box1; have n2 := (N.out.bc).box2; have n3 := (N.out.bc).box3; have n4 := (N.out.bc).box4; have n5 := (N.out.bc).box5; have n6 := (N.out.bc).box6; have e0 := (N.out.b6).c0; have e1 := (N.out.b6).c1; have e2 := (N.out.b6).c2; have e3 := (N.out.b6).c3; have e4 := (N.out.b6).c4; have e5 := (N.out.b6).c5; rw [HK.out] at n0; clear hb5 HA)
    go_ret3
    exact ⟨rfl, N.out.hb⟩
set_option maxRecDepth 100000 in
set_option maxHeartbeats 6400000 in
theorem rt_and1 (x : Cv) (v o : NV) (res t : Int) (g len cc j : Nat) (w : World) (hj : j < len) (hE : BxC w g (j * 7) x) (hk : x.c.k = 3) (qu qa : Int) (HA : ∀ W, Below w.heap.size w W → Calls Try.prog 17 #[.slice (some ⟨g, 0, none⟩) len cc, .int .i64 x.c.a, envA v o res t] W fun e' w' => e' = .returned (.tuple #[.bool false, .int .i64 qu, .int .i64 qa]) ∧ Below W.heap.size W w')  :
    Calls Try.prog 17 #[.slice (some ⟨g, 0, none⟩) len cc, .int .i64 (j : Int), envA v o res t] w fun e' w' => e' = .returned (.tuple #[.bool false, .int .i64 qu, .int .i64 qa]) ∧ Below w.heap.size w w' := by
  have HK : Hid (x.c.k = 3) := Lib.hid hk
  clear hk
  unfold envA at HA
  have hcu : qu = 0 ∨ ((qu == 0) = false ∧ (qu != 0) = true) := by
    by_cases h : qu = 0
    · exact .inl h
    · have h2 : (qu == 0) = false := by rw [beq_eq_false_iff_ne]; exact h
      exact .inr ⟨h2, by rw [bne, h2]; rfl⟩
  rcases hcu with rfl | ⟨u0, u1⟩
  · obtain ⟨mp, ba, bl, bc⟩ := v
    unfold envA
    simp only at HA
    have HE := Lib.hid hE
    have m0 := hE.c0
    have m1 := hE.c1
    have m2 := hE.c2
    have m3 := hE.c3
    have m4 := hE.c4
    have m5 := hE.c5
    have m6 := hE.c6
    have hj0 : (0 : Int) ≤ (j : Int) := by omega
    have hj1 : (j : Int) < (len : Int) := by omega
    have hg0 : g ≠ w.heap.size := by have := hE.lt; omega
    clear hE
    simp only
    go_enter Try.func17, Try.ntmps17
    go_upto_region 1 with fail
    refine at_world (fun W => Below w.heap.size w W ∧ W.heap.size = w.heap.size + 1 ∧ Bx6 W w.heap.size ⟨mp, ba, bl, bc⟩ o res t ∧ BxC W g (j * 7) x) ⟨(by repeat' (first | exact Below.refl _ _ | (refine Below.alloc ?_ ?_ _) | (refine Below.setCell ?_ ?_ _) | (refine Below.drew ?_) | (refine below_next ?_ ?_ (by assumption)) | omega | (simp; done) | (simp; omega))), by simp, ⟨by first | (simp; done) | (simp; omega), by simp [go_sem], by simp [go_sem], by simp [go_sem], by simp [go_sem], by simp [go_sem], by simp [go_sem]⟩, HE.out.below (by repeat' (first | exact Below.refl _ _ | (refine Below.alloc ?_ ?_ _) | (refine Below.setCell ?_ ?_ _) | (refine Below.drew ?_) | (refine below_next ?_ ?_ (by assumption)) | omega | (simp; done) | (simp; omega)))⟩ ?_
    rintro W0 ⟨hb0, hz0, B6, BE⟩
    clear m0 m1 m2 m3 m4 m5 m6
    have m0 := BE.c0
    have m1 := BE.c1
    have m2 := BE.c2
    have m3 := BE.c3
    have m4 := BE.c4
    have m5 := BE.c5
    have m6 := BE.c6
    go_upto_region 4 with fail
    refine at_world (fun W => TsI w W x ⟨mp, ba, bl, bc⟩ o res t) ⟨below_next hb0 hb0.size (by repeat' (first | exact Below.refl _ _ | (refine Below.alloc ?_ ?_ _) | (refine Below.setCell ?_ ?_ _) | (refine Below.drew ?_) | (refine below_next ?_ ?_ (by assumption)) | omega | (simp; done) | (simp; omega))), B6.below (by repeat' (first | exact Below.refl _ _ | (refine Below.alloc ?_ ?_ _) | (refine Below.setCell ?_ ?_ _) | (refine Below.drew ?_) | (refine below_next ?_ ?_ (by assumption)) | omega | (simp; done) | (simp; omega))), by rw [← hz0]; exact ⟨by first | (simp; done) | (simp; omega), by simp [go_sem], by simp [go_sem], by simp [go_sem], by simp [go_sem], by simp [go_sem], by simp [go_sem], by simp [go_sem]⟩⟩ ?_
    intro W1 N1
    (try simp only [hz0])
    clear m0 m1 m2 m3 m4 m5 m6 hb0 hz0 B6 BE
    have N := Lib.hid N1
    have n0 := (N1.bc).c0; have n1 := (N1.bc).box1; have n2 := (N1.bc).box2; have n3 := (N1.bc).box3; have n4 := (N1.bc).box4; have n5 := (N1.bc).box5; have n6 := (N1.bc).box6; have e0 := (N1.b6).c0; have e1 := (N1.b6).c1; have e2 := (N1.b6).c2; have e3 := (N1.b6).c3; have e4 := (N1.b6).c4; have e5 := (N1.b6).c5
    clear N1
    rw [HK.out] at n0
    go_wp2_with (go_at_call 17; refine (HA _ N.out.hb).mono ?_; rintro e' w5 ⟨rfl, hb5⟩; have N := Lib.hid (N.out.below hb5); have n0 := (N.out.bc).c0; have n1 := (N.out.bc).box1; have n2 := (N.out.bc).box2; have n3 := (N.out.bc).box3; have n4 := (N.out.bc).box4; have n5 := (N.out.bc).box5; have n6 := (N.out.bc).box6; have e0 := (N.out.b6).c0; have e1 := (N.out.b6).c1; have e2 := (N.out.b6).c2; have e3 := (N.out.b6).c3; have e4 := (N.out.b6).c4; have e5 := (N.out.b6).c5; rw [HK.out] at n0; clear hb5 HA)
    go_ret3
    exact ⟨rfl, N.out.hb⟩
  · obtain ⟨mp, ba, bl, bc⟩ := v
    unfold envA
    simp only at HA
    have HE := Lib.hid hE
    have m0 := hE.c0
    have m1 := hE.c1
    have m2 := hE.c2
    have m3 := hE.c3
    have m4 := hE.c4
    have m5 := hE.c5
    have m6 := hE.c6
    have hj0 : (0 : Int) ≤ (j : Int) := by omega
    have hj1 : (j : Int) < (len : Int) := by omega
    have hg0 : g ≠ w.heap.size := by have := hE.lt; omega
    clear hE
    simp only
    go_enter Try.func17, Try.ntmps17
    go_upto_region 1 with fail
    refine at_world (fun W => Below w.heap.size w W ∧ W.heap.size = w.heap.size + 1 ∧ Bx6 W w.heap.size ⟨mp, ba, bl, bc⟩ o res t ∧ BxC W g (j * 7) x) ⟨(by repeat' (first | exact Below.refl _ _ | (refine Below.alloc ?_ ?_ _) | (refine Below.setCell ?_ ?_ _) | (refine Below.drew ?_) | (refine below_next ?_ ?_ (by assumption)) | omega | (simp; done) | (simp; omega))), by simp, ⟨by first | (simp; done) | (simp; omega), by simp [go_sem], by simp [go_sem], by simp [go_sem], by simp [go_sem], by simp [go_sem], by simp [go_sem]⟩, HE.out.below (by repeat' (first | exact Below.refl _ _ | (refine Below.alloc ?_ ?_ _) | (refine Below.setCell ?_ ?_ _) | (refine Below.drew ?_) | (refine below_next ?_ ?_ (by assumption)) | omega | (simp; done) | (simp; omega)))⟩ ?_
    rintro W0 ⟨hb0, hz0, B6, BE⟩
    clear m0 m1 m2 m3 m4 m5 m6
    have m0 := BE.c0
    have m1 := BE.c1
    have m2 := BE.c2
    have m3 := BE.c3
    have m4 := BE.c4
    have m5 := BE.c5
    have m6 := BE.c6
    go_upto_region 4 with fail
    refine at_world (fun W => TsI w W x ⟨mp, ba, bl, bc⟩ o res t) ⟨below_next hb0 hb0.size (by repeat' (first | exact Below.refl _ _ | (refine Below.alloc ?_ ?_ _) | (refine Below.setCell ?_ ?_ _) | (refine Below.drew ?_) | (refine below_next ?_ ?_ (by assumption)) | omega | (simp; done) | (simp; omega))), B6.below (by repeat' (first | exact Below.refl _ _ | (refine Below.alloc ?_ ?_ _) | (refine Below.setCell ?_ ?_ _) | (refine Below.drew ?_) | (refine below_next ?_ ?_ (by assumption)) | omega | (simp; done) | (simp; omega))), by rw [← hz0]; exact ⟨by first | (simp; done) | (simp; omega), by simp [go_sem], by simp [go_sem], by simp [go_sem], by simp [go_sem], by simp [go_sem], by simp [go_sem], by simp [go_sem]⟩⟩ ?_
    intro W1 N1
    (try simp only [hz0])
    clear m0 m1 m2 m3 m4 m5 m6 hb0 hz0 B6 BE
    have N := Lib.hid N1
    have n0 := (N1.bc).c0; have n1 := (N1.bc).box1; have n2 := (N1.bc).box2; have n3 := (N1.bc).box3; have n4 := (N1.bc).box4; have n5 := (N1.bc).box5; have n6 := (N1.bc).box6; have e0 := (N1.b6).c0; have e1 := (N1.b6).c1; have e2 := (N1.b6).c2; have e3 := (N1.b6).c3; have e4 := (N1.b6).c4; have e5 := (N1.b6).c5
    clear N1
    rw [HK.out] at n0
    go_wp2_with (go_at_call 17; refine (HA _ N.out.hb).mono ?_; rintro e' w5 ⟨rfl, hb5⟩; have N := Lib.hid (N.out.below hb5); have n0 := (N.out.bc).c0; have n1 := (N.out.bc).box1; have n2 := (N.out.bc).box2; have n3 := (N.out.bc).box3; have n4 := (N.out.bc).box4; have n5 := (N.out.bc).box5; have n6 := (N.out.bc).box6; have e0 := (N.out.b6).c0; have e1 := (N.out.b6).c1; have e2 := (N.out.b6).c2; have e3 := (N.out.b6).c3; have e4 := (N.out.b6).c4; have e5 := (N.out.b6).c5; rw [HK.out] at n0; clear hb5 HA)
    go_ret3
    exact ⟨rfl, N.out.hb⟩
set_option maxRecDepth 100000 in
set_option maxHeartbeats 6400000 in
theorem rt_and2 (x : Cv) (v o : NV) (res t : Int) (g len cc j : Nat) (w : World) (hj : j < len) (hE : BxC w g (j * 7) x) (hk : x.c.k = 3) (qa pu pa : Int) (pb : Bool) (HA : ∀ W, Below w.heap.size w W → Calls Try.prog 17 #[.slice (some ⟨g, 0, none⟩) len cc, .int .i64 x.c.a, envA v o res t] W fun e' w' => e' = .returned (.tuple #[.bool true, .int .i64 0, .int .i64 qa]) ∧ Below W.heap.size W w') (HB : ∀ W, Below w.heap.size w W → Calls Try.prog 17 #[.slice (some ⟨g, 0, none⟩) len cc, .int .i64 x.c.b, envA v o res t] W fun e' w' => e' = .returned (.tuple #[.bool pb, .int .i64 pu, .int .i64 pa]) ∧ Below W.heap.size W w')  :
    Calls Try.prog 17 #[.slice (some ⟨g, 0, none⟩) len cc, .int .i64 (j : Int), envA v o res t] w fun e' w' => e' = .returned (.tuple #[.bool pb, .int .i64 pu, .int .i64 pa]) ∧ Below w.heap.size w w' := by
  have HK : Hid (x.c.k = 3) := Lib.hid hk
  clear hk
  unfold envA at HA HB
  obtain ⟨mp, ba, bl, bc⟩ := v
  unfold envA
  simp only at HA HB
  have HE := Lib.hid hE
  have m0 := hE.c0
  have m1 := hE.c1
  have m2 := hE.c2
  have m3 := hE.c3
  have m4 := hE.c4
  have m5 := hE.c5
  have m6 := hE.c6
  have hj0 : (0 : Int) ≤ (j : Int) := by omega
  have hj1 : (j : Int) < (len : Int) := by omega
  have hg0 : g ≠ w.heap.size := by have := hE.lt; omega
  clear hE
  simp only
  go_enter Try.func17, Try.ntmps17
  go_upto_region 1 with fail
  refine at_world (fun W => Below w.heap.size w W ∧ W.heap.size = w.heap.size + 1 ∧ Bx6 W w.heap.size ⟨mp, ba, bl, bc⟩ o res t ∧ BxC W g (j * 7) x) ⟨(by repeat' (first | exact Below.refl _ _ | (refine Below.alloc ?_ ?_ _) | (refine Below.setCell ?_ ?_ _) | (refine Below.drew ?_) | (refine below_next ?_ ?_ (by assumption)) | omega | (simp; done) | (simp; omega))), by simp, ⟨by first | (simp; done) | (simp; omega), by simp [go_sem], by simp [go_sem], by simp [go_sem], by simp [go_sem], by simp [go_sem], by simp [go_sem]⟩, HE.out.below (by repeat' (first | exact Below.refl _ _ | (refine Below.alloc ?_ ?_ _) | (refine Below.setCell ?_ ?_ _) | (refine Below.drew ?_) | (refine below_next ?_ ?_ (by assumption)) | omega | (simp; done) | (simp; omega)))⟩ ?_
  rintro W0 ⟨hb0, hz0, B6, BE⟩
  clear m0 m1 m2 m3 m4 m5 m6
  have m0 := BE.c0
  have m1 := BE.c1
  have m2 := BE.c2
  have m3 := BE.c3
  have m4 := BE.c4
  have m5 := BE.c5
  have m6 := BE.c6
  go_upto_region 4 with fail
  refine at_world (fun W => TsI w W x ⟨mp, ba, bl, bc⟩ o res t) ⟨below_next hb0 hb0.size (by repeat' (first | exact Below.refl _ _ | (refine Below.alloc ?_ ?_ _) | (refine Below.setCell ?_ ?_ _) | (refine Below.drew ?_) | (refine below_next ?_ ?_ (by assumption)) | omega | (simp; done) | (simp; omega))), B6.below (by repeat' (first | exact Below.refl _ _ | (refine Below.alloc ?_ ?_ _) | (refine Below.setCell ?_ ?_ _) | (refine Below.drew ?_) | (refine below_next ?_ ?_ (by assumption)) | omega | (simp; done) | (simp; omega))), by rw [← hz0]; exact ⟨by first | (simp; done) | (simp; omega), by simp [go_sem], by simp [go_sem], by simp [go_sem], by simp [go_sem], by simp [go_sem], by simp [go_sem], by simp [go_sem]⟩⟩ ?_
  intro W1 N1
  (try simp only [hz0])
  clear m0 m1 m2 m3 m4 m5 m6 hb0 hz0 B6 BE
  have N := Lib.hid N1
  have n0 := (N1.bc).c0; have n1 := (N1.bc).box1; have n2 := (N1.bc).box2; have n3 := (N1.bc).box3; have n4 := (N1.bc).box4; have n5 := (N1.bc).box5; have n6 := (N1.bc).box6; have e0 := (N1.b6).c0; have e1 := (N1.b6).c1; have e2 := (N1.b6).c2; have e3 := (N1.b6).c3; have e4 := (N1.b6).c4; have e5 := (N1.b6).c5
  clear N1
  rw [HK.out] at n0
  go_wp2_with (first | (go_at_call 17; refine (HA _ N.out.hb).mono ?_; rintro e' w5 ⟨rfl, hb5⟩; have N := Lib.hid (N.out.below hb5); have n0 := (N.out.bc).c0; have n1 := (N.out.bc).box1; have n2 := (N.out.bc).box2; have n3 := (N.out.bc).box3; have n4 := (N.out.bc).box4; have n5 := (N.out.bc).box5; have n6 := (N.out.bc).box6; have e0 := (N.out.b6).c0; have e1 := (N.out.b6).c1; have e2 := (N.out.b6).c2; have e3 := (N.out.b6).c3; have e4 := (N.out.b6).c4; have e5 := (N.out.b6).c5; rw [HK.out] at n0; clear hb5 HA) | (go_at_call 17; refine (HB _ N.out.hb).mono ?_; rintro e' w7 ⟨rfl, hb7⟩; have N := Lib.hid (N.out.below hb7); clear hb7 HB))
  go_ret3
  exact ⟨rfl, N.out.hb⟩
set_option maxRecDepth 100000 in
set_option maxHeartbeats 6400000 in
theorem rt_or1 (x : Cv) (v o : NV) (res t : Int) (g len cc j : Nat) (w : World) (hj : j < len) (hE : BxC w g (j * 7) x) (hk : x.c.k = 4) (qa : Int) (HA : ∀ W, Below w.heap.size w W → Calls Try.prog 17 #[.slice (some ⟨g, 0, none⟩) len cc, .int .i64 x.c.a, envA v o res t] W fun e' w' => e' = .returned (.tuple #[.bool true, .int .i64 0, .int .i64 qa]) ∧ Below W.heap.size W w')  :
    Calls Try.prog 17 #[.slice (some ⟨g, 0, none⟩) len cc, .int .i64 (j : Int), envA v o res t] w fun e' w' => e' = .returned (.tuple #[.bool true, .int .i64 0, .int .i64 qa]) ∧ Below w.heap.size w w' := by
  have HK : Hid (x.c.k = 4) := Lib.hid hk
  clear hk
  unfold envA at HA
  obtain ⟨mp, ba, bl, bc⟩ := v
  unfold envA
  simp only at HA
  have HE := Lib.hid hE
  have m0 := hE.c0
  have m1 := hE.c1
  have m2 := hE.c2
  have m3 := hE.c3
  have m4 := hE.c4
  have m5 := hE.c5
  have m6 := hE.c6
  have hj0 : (0 : Int) ≤ (j : Int) := by omega
  have hj1 : (j : Int) < (len : Int) := by omega
  have hg0 : g ≠ w.heap.size := by have := hE.lt; omega
  clear hE
  simp only
  go_enter Try.func17, Try.ntmps17
  go_upto_region 1 with fail
  refine at_world (fun W => Below w.heap.size w W ∧ W.heap.size = w.heap.size + 1 ∧ Bx6 W w.heap.size ⟨mp, ba, bl, bc⟩ o res t ∧ BxC W g (j * 7) x) ⟨(by repeat' (first | exact Below.refl _ _ | (refine Below.alloc ?_ ?_ _) | (refine Below.setCell ?_ ?_ _) | (refine Below.drew ?_) | (refine below_next ?_ ?_ (by assumption)) | omega | (simp; done) | (simp; omega))), by simp, ⟨by first | (simp; done) | (simp; omega), by simp [go_sem], by simp [go_sem], by simp [go_sem], by simp [go_sem], by simp [go_sem], by simp [go_sem]⟩, HE.out.below (by repeat' (first | exact Below.refl _ _ | (refine Below.alloc ?_ ?_ _) | (refine Below.setCell ?_ ?_ _) | (refine Below.drew ?_) | (refine below_next ?_ ?_ (by assumption)) | omega | (simp; done) | (simp; omega)))⟩ ?_
  rintro W0 ⟨hb0, hz0, B6, BE⟩
  clear m0 m1 m2 m3 m4 m5 m6
  have m0 := BE.c0
  have m1 := BE.c1
  have m2 := BE.c2
  have m3 := BE.c3
  have m4 := BE.c4
  have m5 := BE.c5
  have m6 := BE.c6
  go_upto_region 4 with fail
  refine at_world (fun W => TsI w W x ⟨mp, ba, bl, bc⟩ o res t) ⟨below_next hb0 hb0.size (by repeat' (first | exact Below.refl _ _ | (refine Below.alloc ?_ ?_ _) | (refine Below.setCell ?_ ?_ _) | (refine Below.drew ?_) | (refine below_next ?_ ?_ (by assumption)) | omega | (simp; done) | (simp; omega))), B6.below (by repeat' (first | exact Below.refl _ _ | (refine Below.alloc ?_ ?_ _) | (refine Below.setCell ?_ ?_ _) | (refine Below.drew ?_) | (refine below_next ?_ ?_ (by assumption)) | omega | (simp; done) | (simp; omega))), by rw [← hz0]; exact ⟨by first | (simp; done) | (simp; omega), by simp [go_sem], by simp [go_sem], by simp [go_sem], by simp [go_sem], by simp [go_sem], by simp [go_sem], by simp [go_sem]⟩⟩ ?_
  intro W1 N1
  (try simp only [hz0])
  clear m0 m1 m2 m3 m4 m5 m6 hb0 hz0 B6 BE
  have N := Lib.hid N1
  have n0 := (N1.bc).c0; have n1 := (N1.bc).box1; have n2 := (N1.bc).box2; have n3 := (N1.bc).box3; have n4 := (N1.bc).box4; have n5 := (N1.bc).box5; have n6 := (N1.bc).box6; have e0 := (N1.b6).c0; have e1 := (N1.b6).c1; have e2 := (N1.b6).c2; have e3 := (N1.b6).c3; have e4 := (N1.b6).c4; have e5 := (N1.b6).c5
  clear N1
  rw [HK.out] at n0
  go_wp2_with (go_at_call 17; refine (HA _ N.out.hb).mono ?_; rintro e' w5 ⟨rfl, hb5⟩; have N := Lib.hid (N.out.below hb5); have n0 := (N.out.bc).c0; have n1 := (N.out.bc).box1; have n2 := (N.out.bc).box2; have n3 := (N.out.bc).box3; have n4 := (N.out.bc).box4; have n5 := (N.out.bc).box5; have n6 := (N.out.bc).box6; have e0 := (N.out.b6).c0; have e1 := (N.out.b6).c1; have e2 := (N.out.b6).c2; have e3 := (N.out.b6).c3; have e4 := (N.out.b6).c4; have e5 := (N.out.b6).c5; rw [HK.out] at n0; clear hb5 HA)
  go_ret3
  exact ⟨rfl, N.out.hb⟩
set_option maxRecDepth 100000 in
set_option maxHeartbeats 6400000 in
theorem rt_or2 (x : Cv) (v o : NV) (res t : Int) (g len cc j : Nat) (w : World) (hj : j < len) (hE : BxC w g (j * 7) x) (hk : x.c.k = 4) (qa pu pa : Int) (pb : Bool) (HA : ∀ W, Below w.heap.size w W → Calls Try.prog 17 #[.slice (some ⟨g, 0, none⟩) len cc, .int .i64 x.c.a, envA v o res t] W fun e' w' => e' = .returned (.tuple #[.bool false, .int .i64 0, .int .i64 qa]) ∧ Below W.heap.size W w') (HB : ∀ W, Below w.heap.size w W → Calls Try.prog 17 #[.slice (some ⟨g, 0, none⟩) len cc, .int .i64 x.c.b, envA v o res t] W fun e' w' => e' = .returned (.tuple #[.bool pb, .int .i64 pu, .int .i64 pa]) ∧ Below W.heap.size W w')  :
    Calls Try.prog 17 #[.slice (some ⟨g, 0, none⟩) len cc, .int .i64 (j : Int), envA v o res t] w fun e' w' => e' = .returned (.tuple #[.bool pb, .int .i64 pu, .int .i64 pa]) ∧ Below w.heap.size w w' := by
  have HK : Hid (x.c.k = 4) := Lib.hid hk
  clear hk
  unfold envA at HA HB
  obtain ⟨mp, ba, bl, bc⟩ := v
  unfold envA
  simp only at HA HB
  have HE := Lib.hid hE
  have m0 := hE.c0
  have m1 := hE.c1
  have m2 := hE.c2
  have m3 := hE.c3
  have m4 := hE.c4
  have m5 := hE.c5
  have m6 := hE.c6
  have hj0 : (0 : Int) ≤ (j : Int) := by omega
  have hj1 : (j : Int) < (len : Int) := by omega
  have hg0 : g ≠ w.heap.size := by have := hE.lt; omega
  clear hE
  simp only
  go_enter Try.func17, Try.ntmps17
  go_upto_region 1 with fail
  refine at_world (fun W => Below w.heap.size w W ∧ W.heap.size = w.heap.size + 1 ∧ Bx6 W w.heap.size ⟨mp, ba, bl, bc⟩ o res t ∧ BxC W g (j * 7) x) ⟨(by repeat' (first | exact Below.refl _ _ | (refine Below.alloc ?_ ?_ _) | (refine Below.setCell ?_ ?_ _) | (refine Below.drew ?_) | (refine below_next ?_ ?_ (by assumption)) | omega | (simp; done) | (simp; omega))), by simp, ⟨by first | (simp; done) | (simp; omega), by simp [go_sem], by simp [go_sem], by simp [go_sem], by simp [go_sem], by simp [go_sem], by simp [go_sem]⟩, HE.out.below (by repeat' (first | exact Below.refl _ _ | (refine Below.alloc ?_ ?_ _) | (refine Below.setCell ?_ ?_ _) | (refine Below.drew ?_) | (refine below_next ?_ ?_ (by assumption)) | omega | (simp; done) | (simp; omega)))⟩ ?_
  rintro W0 ⟨hb0, hz0, B6, BE⟩
  clear m0 m1 m2 m3 m4 m5 m6
  have m0 := BE.c0
  have m1 := BE.c1
  have m2 := BE.c2
  have m3 := BE.c3
  have m4 := BE.c4
  have m5 := BE.c5
  have m6 := BE.c6
  go_upto_region 4 with fail
  refine at_world (fun W => TsI w W x ⟨mp, ba, bl, bc⟩ o res t) ⟨below_next hb0 hb0.size (by repeat' (first | exact Below.refl _ _ | (refine Below.alloc ?_ ?_ _) | (refine Below.setCell ?_ ?_ _) | (refine Below.drew ?_) | (refine below_next ?_ ?_ (by assumption)) | omega | (simp; done) | (simp; omega))), B6.below (by repeat' (first | exact Below.refl _ _ | (refine Below.alloc ?_ ?_ _) | (refine Below.setCell ?_ ?_ _) | (refine Below.drew ?_) | (refine below_next ?_ ?_ (by assumption)) | omega | (simp; done) | (simp; omega))), by rw [← hz0]; exact ⟨by first | (simp; done) | (simp; omega), by simp [go_sem], by simp [go_sem], by simp [go_sem], by simp [go_sem], by simp [go_sem], by simp [go_sem], by simp [go_sem]⟩⟩ ?_
  intro W1 N1
  (try simp only [hz0])
  clear m0 m1 m2 m3 m4 m5 m6 hb0 hz0 B6 BE
  have N := Lib.hid N1
  have n0 := (N1.bc).c0; have n1 := (N1.bc).box1; have n2 := (N1.bc).box2; have n3 := (N1.bc).box3; have n4 := (N1.bc).box4; have n5 := (N1.bc).box5; have n6 := (N1.bc).box6; have e0 := (N1.b6).c0; have e1 := (N1.b6).c1; have e2 := (N1.b6).c2; have e3 := (N1.b6).c3; have e4 := (N1.b6).c4; have e5 := (N1.b6).c5
  clear N1
  rw [HK.out] at n0
  go_wp2_with (first | (go_at_call 17; refine (HA _ N.out.hb).mono ?_; rintro e' w5 ⟨rfl, hb5⟩; have N := Lib.hid (N.out.below hb5); have n0 := (N.out.bc).c0; have n1 := (N.out.bc).box1; have n2 := (N.out.bc).box2; have n3 := (N.out.bc).box3; have n4 := (N.out.bc).box4; have n5 := (N.out.bc).box5; have n6 := (N.out.bc).box6; have e0 := (N.out.b6).c0; have e1 := (N.out.b6).c1; have e2 := (N.out.b6).c2; have e3 := (N.out.b6).c3; have e4 := (N.out.b6).c4; have e5 := (N.out.b6).c5; rw [HK.out] at n0; clear hb5 HA) | (go_at_call 17; refine (HB _ N.out.hb).mono ?_; rintro e' w7 ⟨rfl, hb7⟩; have N := Lib.hid (N.out.below hb7); clear hb7 HB))
  go_ret3
  exact ⟨rfl, N.out.hb⟩
set_option maxRecDepth 100000 in
set_option maxHeartbeats 6400000 in
theorem rt_or3 (x : Cv) (v o : NV) (res t : Int) (g len cc j : Nat) (w : World) (hj : j < len) (hE : BxC w g (j * 7) x) (hk : x.c.k = 4) (qu qa : Int) (hu : qu ≠ 0) (HA : ∀ W, Below w.heap.size w W → Calls Try.prog 17 #[.slice (some ⟨g, 0, none⟩) len cc, .int .i64 x.c.a, envA v o res t] W fun e' w' => e' = .returned (.tuple #[.bool false, .int .i64 qu, .int .i64 qa]) ∧ Below W.heap.size W w')  :
    Calls Try.prog 17 #[.slice (some ⟨g, 0, none⟩) len cc, .int .i64 (j : Int), envA v o res t] w fun e' w' => e' = .returned (.tuple #[.bool false, .int .i64 qu, .int .i64 qa]) ∧ Below w.heap.size w w' := by
  have HK : Hid (x.c.k = 4) := Lib.hid hk
  clear hk
  unfold envA at HA
  have u0 : (qu == 0) = false := by rw [beq_eq_false_iff_ne]; exact hu
  have u1 : (qu != 0) = true := by rw [bne, u0]; rfl
  clear hu
  obtain ⟨mp, ba, bl, bc⟩ := v
  unfold envA
  simp only at HA
  have HE := Lib.hid hE
  have m0 := hE.c0
  have m1 := hE.c1
  have m2 := hE.c2
  have m3 := hE.c3
  have m4 := hE.c4
  have m5 := hE.c5
  have m6 := hE.c6
  have hj0 : (0 : Int) ≤ (j : Int) := by omega
  have hj1 : (j : Int) < (len : Int) := by omega
  have hg0 : g ≠ w.heap.size := by have := hE.lt; omega
  clear hE
  simp only
  go_enter Try.func17, Try.ntmps17
  go_upto_region 1 with fail
  refine at_world (fun W => Below w.heap.size w W ∧ W.heap.size = w.heap.size + 1 ∧ Bx6 W w.heap.size ⟨mp, ba, bl, bc⟩ o res t ∧ BxC W g (j * 7) x) ⟨(by repeat' (first | exact Below.refl _ _ | (refine Below.alloc ?_ ?_ _) | (refine Below.setCell ?_ ?_ _) | (refine Below.drew ?_) | (refine below_next ?_ ?_ (by assumption)) | omega | (simp; done) | (simp; omega))), by simp, ⟨by first | (simp; done) | (simp; omega), by simp [go_sem], by simp [go_sem], by simp [go_sem], by simp [go_sem], by simp [go_sem], by simp [go_sem]⟩, HE.out.below (by repeat' (first | exact Below.refl _ _ | (refine Below.alloc ?_ ?_ _) | (refine Below.setCell ?_ ?_ _) | (refine Below.drew ?_) | (refine below_next ?_ ?_ (by assumption)) | omega | (simp; done) | (simp; omega)))⟩ ?_
  rintro W0 ⟨hb0, hz0, B6, BE⟩
  clear m0 m1 m2 m3 m4 m5 m6
  have m0 := BE.c0
  have m1 := BE.c1
  have m2 := BE.c2
  have m3 := BE.c3
  have m4 := BE.c4
  have m5 := BE.c5
  have m6 := BE.c6
  go_upto_region 4 with fail
  refine at_world (fun W => TsI w W x ⟨mp, ba, bl, bc⟩ o res t) ⟨below_next hb0 hb0.size (by repeat' (first | exact Below.refl _ _ | (refine Below.alloc ?_ ?_ _) | (refine Below.setCell ?_ ?_ _) | (refine Below.drew ?_) | (refine below_next ?_ ?_ (by assumption)) | omega | (simp; done) | (simp; omega))), B6.below (by repeat' (first | exact Below.refl _ _ | (refine Below.alloc ?_ ?_ _) | (refine Below.setCell ?_ ?_ _) | (refine Below.drew ?_) | (refine below_next ?_ ?_ (by assumption)) | omega | (simp; done) | (simp; omega))), by rw [← hz0]; exact ⟨by first | (simp; done) | (simp; omega), by simp [go_sem], by simp [go_sem], by simp [go_sem], by simp [go_sem], by simp [go_sem], by simp [go_sem], by simp [go_sem]⟩⟩ ?_
  intro W1 N1
  (try simp only [hz0])
  clear m0 m1 m2 m3 m4 m5 m6 hb0 hz0 B6 BE
  have N := Lib.hid N1
  have n0 := (N1.bc).c0; have n1 := (N1.bc).box1; have n2 := (N1.bc).box2; have n3 := (N1.bc).box3; have n4 := (N1.bc).box4; have n5 := (N1.bc).box5; have n6 := (N1.bc).box6; have e0 := (N1.b6).c0; have e1 := (N1.b6).c1; have e2 := (N1.b6).c2; have e3 := (N1.b6).c3; have e4 := (N1.b6).c4; have e5 := (N1.b6).c5
  clear N1
  rw [HK.out] at n0
  go_wp2_with (go_at_call 17; refine (HA _ N.out.hb).mono ?_; rintro e' w5 ⟨rfl, hb5⟩; have N := Lib.hid (N.out.below hb5); have n0 := (N.out.bc).c0; have n1 := (N.out.bc).box1; have n2 := (N.out.bc).box2; have n3 := (N.out.bc).box3; have n4 := (N.out.bc).box4; have n5 := (N.out.bc).box5; have n6 := (N.out.bc).box6; have e0 := (N.out.b6).c0; have e1 := (N.out.b6).c1; have e2 := (N.out.b6).c2; have e3 := (N.out.b6).c3; have e4 := (N.out.b6).c4; have e5 := (N.out.b6).c5; rw [HK.out] at n0; clear hb5 HA)
  go_ret3
  exact ⟨rfl, N.out.hb⟩
set_option maxRecDepth 100000 in
set_option maxHeartbeats 6400000 in
theorem rt_none (x : Cv) (v o : NV) (res t : Int) (g len cc j : Nat) (w : World) (hj : j < len) (hE : BxC w g (j * 7) x) (h1 : x.c.k ≠ 1) (h2 : x.c.k ≠ 2) (h3 : x.c.k ≠ 3) (h4 : x.c.k ≠ 4) :
    Calls Try.prog 17 #[.slice (some ⟨g, 0, none⟩) len cc, .int .i64 (j : Int), envA v o res t] w fun e' w' => e' = .returned (.tuple #[.bool false, .int .i64 0, .int .i64 0]) ∧ Below w.heap.size w w' := by
  have k1 : (x.c.k == 1) = false := by rw [beq_eq_false_iff_ne]; omega
  have k2 : (x.c.k == 2) = false := by rw [beq_eq_false_iff_ne]; omega
  have k3 : (x.c.k == 3) = false := by rw [beq_eq_false_iff_ne]; omega
  have k4 : (x.c.k == 4) = false := by rw [beq_eq_false_iff_ne]; omega
  obtain ⟨kk, hkk⟩ : ∃ k, x.c.k = k := ⟨_, rfl⟩
  rw [hkk] at k1 k2 k3 k4
  have HK := Lib.hid hkk
  clear hkk h1 h2 h3 h4
  obtain ⟨mp, ba, bl, bc⟩ := v
  unfold envA
  have HE := Lib.hid hE
  have m0 := hE.c0
  have m1 := hE.c1
  have m2 := hE.c2
  have m3 := hE.c3
  have m4 := hE.c4
  have m5 := hE.c5
  have m6 := hE.c6
  have hj0 : (0 : Int) ≤ (j : Int) := by omega
  have hj1 : (j : Int) < (len : Int) := by omega
  have hg0 : g ≠ w.heap.size := by have := hE.lt; omega
  clear hE
  simp only
  go_enter Try.func17, Try.ntmps17
  go_upto_region 1 with fail
  refine at_world (fun W => Below w.heap.size w W ∧ W.heap.size = w.heap.size + 1 ∧ Bx6 W w.heap.size ⟨mp, ba, bl, bc⟩ o res t ∧ BxC W g (j * 7) x) ⟨(by repeat' (first | exact Below.refl _ _ | (refine Below.alloc ?_ ?_ _) | (refine Below.setCell ?_ ?_ _) | (refine Below.drew ?_) | (refine below_next ?_ ?_ (by assumption)) | omega | (simp; done) | (simp; omega))), by simp, ⟨by first | (simp; done) | (simp; omega), by simp [go_sem], by simp [go_sem], by simp [go_sem], by simp [go_sem], by simp [go_sem], by simp [go_sem]⟩, HE.out.below (by repeat' (first | exact Below.refl _ _ | (refine Below.alloc ?_ ?_ _) | (refine Below.setCell ?_ ?_ _) | (refine Below.drew ?_) | (refine below_next ?_ ?_ (by assumption)) | omega | (simp; done) | (simp; omega)))⟩ ?_
  rintro W0 ⟨hb0, hz0, B6, BE⟩
  clear m0 m1 m2 m3 m4 m5 m6
  have m0 := BE.c0
  have m1 := BE.c1
  have m2 := BE.c2
  have m3 := BE.c3
  have m4 := BE.c4
  have m5 := BE.c5
  have m6 := BE.c6
  go_upto_region 4 with fail
  refine at_world (fun W => TsI w W x ⟨mp, ba, bl, bc⟩ o res t) ⟨below_next hb0 hb0.size (by repeat' (first | exact Below.refl _ _ | (refine Below.alloc ?_ ?_ _) | (refine Below.setCell ?_ ?_ _) | (refine Below.drew ?_) | (refine below_next ?_ ?_ (by assumption)) | omega | (simp; done) | (simp; omega))), B6.below (by repeat' (first | exact Below.refl _ _ | (refine Below.alloc ?_ ?_ _) | (refine Below.setCell ?_ ?_ _) | (refine Below.drew ?_) | (refine below_next ?_ ?_ (by assumption)) | omega | (simp; done) | (simp; omega))), by rw [← hz0]; exact ⟨by first | (simp; done) | (simp; omega), by simp [go_sem], by simp [go_sem], by simp [go_sem], by simp [go_sem], by simp [go_sem], by simp [go_sem], by simp [go_sem]⟩⟩ ?_
  intro W1 N1
  (try simp only [hz0])
  clear m0 m1 m2 m3 m4 m5 m6 hb0 hz0 B6 BE
  have N := Lib.hid N1
  have n0 := (N1.bc).c0; have n1 := (N1.bc).box1; have n2 := (N1.bc).box2; have n3 := (N1.bc).box3; have n4 := (N1.bc).box4; have n5 := (N1.bc).box5; have n6 := (N1.bc).box6; have e0 := (N1.b6).c0; have e1 := (N1.b6).c1; have e2 := (N1.b6).c2; have e3 := (N1.b6).c3; have e4 := (N1.b6).c4; have e5 := (N1.b6).c5
  clear N1
  rw [HK.out] at n0
  go_wp2_with fail
  go_ret3
  exact ⟨rfl, N.out.hb⟩
set_option maxRecDepth 100000 in
set_option maxHeartbeats 6400000 in
theorem rt_out (v o : NV) (res t at_ : Int) (A : Option Addr) (len cc : Nat) (w : World) (h : at_ < 0 ∨ (len : Int) ≤ at_) :
    Calls Try.prog 17 #[.slice A len cc, .int .i64 at_, envA v o res t] w fun e' w' => e' = .returned (.tuple #[.bool false, .int .i64 0, .int .i64 0]) ∧ Below w.heap.size w w' := by
  unfold envA
  rcases (by omega : at_ < 0 ∨ (0 ≤ at_ ∧ (len : Int) ≤ at_)) with h1 | ⟨h1, h2⟩
  · clear h
    go_enter Try.func17, Try.ntmps17
    go_wp2_with fail
    go_ret3
    exact ⟨rfl, (by repeat' (first | exact Below.refl _ _ | (refine Below.alloc ?_ ?_ _) | (refine Below.setCell ?_ ?_ _) | (refine Below.drew ?_) | (refine below_next ?_ ?_ (by assumption)) | omega | (simp; done) | (simp; omega)))⟩
  · have g0 : decide (at_ < 0) = false := decide_eq_false (by omega)
    clear h
    go_enter Try.func17, Try.ntmps17
    go_wp2_with fail
    go_ret3
    exact ⟨rfl, (by repeat' (first | exact Below.refl _ _ | (refine Below.alloc ?_ ?_ _) | (refine Below.setCell ?_ ?_ _) | (refine Below.drew ?_) | (refine below_next ?_ ?_ (by assumption)) | omega | (simp; done) | (simp; omega)))⟩
end Go.Proofs.Ytlhenpocaagbjaa.C

namespace Go.Proofs.Ytlhenpocaagbjaa.C
open Go.RowKit
set_option linter.unusedSimpArgs false
set_option linter.unusedVariables false
/-- What is true of what the reader of conditions leaves. -/
def CLn (N : Nat) (st : Rd) (l : List Cd) (r : Rd × List Cd) : Prop := r.1.i ≤ N ∧ st.i ≤ r.1.i ∧ r.2.length + st.i ≤ l.length + r.1.i + e1P r.1 ∧ (st.e ≠ 0 → r = (st, l))
theorem CLn.opened {ts : List Tok} {N : Nat} {st : Rd} {l : List Cd} {r : Rd × List Cd} (W : List UInt8) (h0 : st.e = 0) (h : CLn N (openP ts st W) l r) : r.1.i ≤ N ∧ st.i ≤ r.1.i ∧ r.2.length + st.i + 1 ≤ l.length + r.1.i + e1P r.1 := by
  obtain ⟨a, b, c, d⟩ := h
  rcases (openP_facts ts st W h0).2 with ⟨x, y⟩ | ⟨x, y⟩
  · exact ⟨a, by omega, by omega⟩
  · have := d y
    rw [this] at a b c ⊢
    simp only at a b c ⊢
    have e1 := e1P_1 y
    exact ⟨a, by omega, by omega⟩
theorem cF_cnt (ts : List Tok) (N : Nat) (hN : ts.length ≤ N) : ∀ (f m : Nat) (st : Rd) (l : List Cd) (r : Rd × List Cd), cF ts f m st l = some r → st.i ≤ N → CLn N st l r := by
  intro f
  induction f with
  | zero => intro m st l r h; cases h
  | succ f ih =>
    intro m st l r h hi
    have hone : ∀ X : Cd, [X].length = 1 := fun _ => rfl
    have two : ∀ {m1 m2}, ((cF ts f m1 st l).bind fun r => cF ts f m2 r.1 r.2) = some r → CLn N st l r := by
      intro m1 m2 he
      obtain ⟨q, hq, e⟩ := Option.bind_eq_some_iff.1 he
      obtain ⟨a1, a2, a3, a4⟩ := ih _ _ _ _ hq hi
      obtain ⟨b1, b2, b3, b4⟩ := ih _ _ _ _ e a1
      refine ⟨b1, by omega, ?_, fun he => ?_⟩
      · by_cases hq0 : q.1.e = 0
        · have := e1P_0 hq0; omega
        · rw [b4 hq0]; exact a3
      · have := a4 he
        rw [this] at b4
        exact b4 he
    have on : ∀ {m1 m2 W} {k at_ : Int}, isP ts st W = true → ((cF ts f m1 { st with i := st.i + 1 } l).bind fun r => cF ts f m2 r.1 (r.2 ++ [cdP k ((l.length : Int) - 1) ((r.2.length : Int) - 1) at_])) = some r → CLn N st l r := by
      intro m1 m2 W k at_ hw he
      have hin := isP_in hw
      have h0 := isP_e hw
      obtain ⟨q, hq, e⟩ := Option.bind_eq_some_iff.1 he
      obtain ⟨a1, a2, a3, a4⟩ := ih _ _ _ _ hq (by show st.i + 1 ≤ N; omega)
      obtain ⟨b1, b2, b3, b4⟩ := ih _ _ _ _ e a1
      simp only at a2 a3
      rw [List.length_append, hone] at b3
      refine ⟨b1, by omega, ?_, fun he => absurd h0 he⟩
      by_cases hq0 : q.1.e = 0
      · have := e1P_0 hq0; omega
      · rw [b4 hq0]
        show (q.2 ++ [_]).length + st.i ≤ l.length + q.1.i + e1P q.1
        rw [List.length_append, hone]
        omega
    have same : CLn N st l (st, l) := ⟨hi, Nat.le_refl _, by show l.length + st.i ≤ l.length + st.i + e1P st; omega, fun _ => rfl⟩
    rw [cF] at h
    by_cases m0 : m = 0
    · rw [if_pos m0] at h
      exact two h
    rw [if_neg m0] at h
    by_cases m1 : m = 1
    · rw [if_pos m1] at h
      exact two h
    rw [if_neg m1] at h
    by_cases m3 : m = 3
    · rw [if_pos m3] at h
      by_cases q : isP ts st [111, 114] = true
      · rw [if_pos q] at h
        exact on q h
      · rw [if_neg q] at h
        cases h
        exact same
    rw [if_neg m3] at h
    by_cases m4 : m = 4
    · rw [if_pos m4] at h
      by_cases q : isP ts st [97, 110, 100] = true
      · rw [if_pos q] at h
        exact on q h
      · rw [if_neg q] at h
        cases h
        exact same
    rw [if_neg m4] at h
    by_cases h3 : st.e ≠ 0
    · rw [if_pos h3] at h
      cases h
      exact same
    rw [if_neg h3] at h
    have h0 : st.e = 0 := Classical.byContradiction h3
    have no : ∀ {P : Prop}, (st.e ≠ 0 → P) := fun he => absurd he h3
    by_cases q1 : isP ts st [110, 111, 116] = true
    · rw [if_pos q1] at h
      obtain ⟨q, hq, e⟩ := Option.bind_eq_some_iff.1 h
      obtain ⟨a1, a2, a3⟩ := (ih _ _ _ _ hq (openP_in _ hN hi)).opened _ h0
      cases e
      exact ⟨a1, a2, by show (q.2 ++ [_]).length + st.i ≤ l.length + q.1.i + e1P q.1; rw [List.length_append, hone]; omega, no⟩
    rw [if_neg q1] at h
    by_cases q2 : isP ts st [91] = true
    · rw [if_pos q2] at h
      obtain ⟨q, hq, e⟩ := Option.bind_eq_some_iff.1 h
      obtain ⟨a1, a2, a3⟩ := (ih _ _ _ _ hq (openP_in _ hN hi)).opened _ h0
      cases e
      have w1 := wantP_sum ts q.1 [93]
      have w2 := (wantP_facts ts q.1 [93]).2.1
      exact ⟨wantP_in _ hN a1, by show st.i ≤ (wantP ts q.1 [93]).i; omega, by show q.2.length + st.i ≤ l.length + (wantP ts q.1 [93]).i + e1P (wantP ts q.1 [93]); omega, no⟩
    rw [if_neg q2] at h
    obtain ⟨x, hx, e⟩ := Option.bind_eq_some_iff.1 h
    obtain ⟨a1, a2, a3, a4⟩ := pF_len ts N hN _ _ _ _ _ hx hi
    by_cases q3 : relP ts x.1 = true
    · rw [if_pos q3] at e
      obtain ⟨y, hy, e⟩ := Option.bind_eq_some_iff.1 e
      have hk : (tkP ts x.1.i).k ≠ 0 := fun e => by
        unfold relP at q3
        rw [e] at q3
        simp at q3
      have hin := tk_in hk
      obtain ⟨b1, b2, b3, b4⟩ := pF_len ts N hN _ _ _ _ _ hy (by show x.1.i + 1 ≤ N; omega)
      simp only at b2
      cases e
      exact ⟨b1, by show st.i ≤ y.1.i; omega, by show (l ++ [_]).length + st.i ≤ l.length + y.1.i + e1P y.1; rw [List.length_append, hone]; omega, no⟩
    · rw [if_neg q3] at e
      cases e
      exact ⟨by rw [(failP_same ts x.1 5).2]; exact a1, by rw [(failP_same ts x.1 5).2]; exact a2, by show l.length + st.i ≤ l.length + (failP ts x.1 5).i + e1P (failP ts x.1 5); rw [(failP_same ts x.1 5).2]; omega, no⟩
theorem CondR.cnt {L : List UInt8} {R : List Cd × Int × Int} (h : CondR L R) : R.1.length ≤ 8194 := by
  rcases h with ⟨h1, h2⟩ | ⟨h1, r, ⟨f, hf⟩, h3⟩
  · rw [h2]; exact Nat.zero_le _
  · rw [h3]
    split
    · exact Nat.zero_le _
    · obtain ⟨a1, a2, a3, _⟩ := cF_cnt _ 8193 (lexR_facts h1).2.1 f 0 _ [] r hf (Nat.zero_le _)
      have := e1P_le r.1
      have hz : ([] : List Cd).length = 0 := rfl
      rw [hz] at a3
      show r.2.length ≤ 8194
      omega
def tV (r : Bool × Int × Int) : Value := .tuple #[.bool r.1, .int .i64 r.2.1, .int .i64 r.2.2]
theorem test_c (l : List Cv) (hK : KidsC (csOf l)) (hL : CLen 8193 (csOf l)) (A : Option Addr) (cc : Nat) (v o : NV) (e eo : Env0) (res t : Int) : ∀ (f : Nat) (at_ : Int) (w : World), (at_ < (f : Int) ∨ (l.length : Int) ≤ at_) → CRd w A l → NOK 59 w v e → NOK 59 w o eo →
    Calls Try.prog 16 #[.slice A l.length cc, .int .i64 at_, envA v o res t] w fun e' w' => e' = .returned (tV (tF (csOf l) eo res t e f at_)) ∧ Below w.heap.size w w' := by
  intro f
  induction f with
  | zero =>
    intro at_ w hat hE hv ho
    exact ts_out v o res t at_ A l.length cc w (by omega)
  | succ f ih =>
    intro at_ w hat hE hv ho
    by_cases hout : at_ < 0 ∨ (l.length : Int) ≤ at_
    · rw [tF, if_pos (by rw [csOf_len]; exact hout)]
      exact ts_out v o res t at_ A l.length cc w hout
    · obtain ⟨j, rfl⟩ := Int.eq_ofNat_of_zero_le (show 0 ≤ at_ by omega)
      have hj : j < l.length := by omega
      have hne : l ≠ [] := by intro x; rw [x] at hj; simp at hj
      obtain ⟨g, rfl, hg⟩ := hE hne
      obtain ⟨x, hget⟩ : ∃ x, l[j]? = some x := ⟨l[j], by rw [List.getElem?_eq_getElem hj]⟩
      have hcs : (csOf l)[j]? = some x.c := by unfold csOf; rw [List.getElem?_map, hget]; rfl
      have hgd : (csOf l).getD j cd0 = x.c := by rw [List.getD_eq_getElem?_getD, hcs]; rfl
      obtain ⟨hB, hEx, hEy⟩ := hg j x hget
      obtain ⟨⟨⟨ka, kb⟩, ka1, kb1⟩, kx, ky⟩ := hK j x.c hcs
      obtain ⟨lx, ly⟩ := hL x.c (List.mem_of_getElem? hcs)
      rw [tF, if_neg (by rw [csOf_len]; exact hout)]
      simp only [Int.toNat_natCast, hgd]
      have IA : ∀ W, Below w.heap.size w W → Calls Try.prog 16 #[.slice (some ⟨g, 0, none⟩) l.length cc, .int .i64 x.c.a, envA v o res t] W fun e' w' => e' = .returned (tV (tF (csOf l) eo res t e f x.c.a)) ∧ Below W.heap.size W w' := fun W hb => ih x.c.a W (by omega) (hE.below hb) (hv.below hb) (ho.below hb)
      have IB : ∀ W, Below w.heap.size w W → Calls Try.prog 16 #[.slice (some ⟨g, 0, none⟩) l.length cc, .int .i64 x.c.b, envA v o res t] W fun e' w' => e' = .returned (tV (tF (csOf l) eo res t e f x.c.b)) ∧ Below W.heap.size W w' := fun W hb => ih x.c.b W (by omega) (hE.below hb) (hv.below hb) (ho.below hb)
      have UA := tF_ub (csOf l) eo res t e f x.c.a
      obtain ⟨⟨qb, qu, qa⟩, hq⟩ : ∃ q, tF (csOf l) eo res t e f x.c.a = q := ⟨_, rfl⟩
      obtain ⟨⟨pb, pu, pa⟩, hp⟩ : ∃ q, tF (csOf l) eo res t e f x.c.b = q := ⟨_, rfl⟩
      rw [hq] at IA UA ⊢
      rw [hp] at IB ⊢
      simp only at UA ⊢
      by_cases h1 : x.c.k = 1
      · rw [if_pos h1]
        have NA : ∀ W, Below w.heap.size w W → Calls Try.prog 24 #[.slice x.ax x.c.x.length x.cx, .int .i64 ((x.c.x.length : Int) - 1), envA v o res t] W fun e' w' => e' = .returned (gtV (vF x.c.x eo res t x.c.x.length e ((x.c.x.length : Int) - 1))) ∧ Below W.heap.size W w' := fun W hb => node_c x.c.x kx x.ax x.cx o eo res t x.c.x.length _ v e W (by omega) (hEx.below hb) (hv.below hb) (ho.below hb)
        have NB : ∀ W, Below w.heap.size w W → Calls Try.prog 24 #[.slice x.ay x.c.y.length x.cy, .int .i64 ((x.c.y.length : Int) - 1), envA v o res t] W fun e' w' => e' = .returned (gtV (vF x.c.y eo res t x.c.y.length e ((x.c.y.length : Int) - 1))) ∧ Below W.heap.size W w' := fun W hb => node_c x.c.y ky x.ay x.cy o eo res t x.c.y.length _ v e W (by omega) (hEy.below hb) (hv.below hb) (ho.below hb)
        unfold relT
        obtain ⟨a, ha⟩ : ∃ a, vF x.c.x eo res t x.c.x.length e ((x.c.x.length : Int) - 1) = a := ⟨_, rfl⟩
        obtain ⟨b, hb⟩ : ∃ b, vF x.c.y eo res t x.c.y.length e ((x.c.y.length : Int) - 1) = b := ⟨_, rfl⟩
        rw [ha] at NA ⊢
        rw [hb] at NB ⊢
        simp only
        by_cases hu : a.ub = 0
        · rw [if_pos hu]
          by_cases hv2 : b.ub = 0
          · rw [if_pos hv2]
            exact ts_rel3 x v o res t g l.length cc j w hj hB h1 _ _ rfl rfl (by omega) (by omega) a b NA NB hu hv2 _ _ _ _ rfl rfl rfl rfl
          · rw [if_neg hv2]
            exact ts_rel2 x v o res t g l.length cc j w hj hB h1 _ _ rfl rfl (by omega) (by omega) a b NA NB hu hv2
        · rw [if_neg hu]
          exact ts_rel1 x v o res t g l.length cc j w hj hB h1 _ _ rfl rfl (by omega) (by omega) a b NA NB hu
      rw [if_neg h1]
      by_cases h2 : x.c.k = 2
      · rw [if_pos h2]
        exact ts_not x v o res t g l.length cc j w hj hB h2 qb qu qa IA
      rw [if_neg h2]
      by_cases h3 : x.c.k = 3
      · rw [if_pos h3]
        cases qb with
        | true =>
          have q0 : qu = 0 := Classical.byContradiction (fun h => by cases UA h)
          subst q0
          rw [if_pos rfl]
          exact ts_and2 x v o res t g l.length cc j w hj hB h3 qa pu pa pb IA IB
        | false =>
          rw [if_neg (by decide)]
          exact ts_and1 x v o res t g l.length cc j w hj hB h3 qu qa IA
      rw [if_neg h3]
      by_cases h4 : x.c.k = 4
      · rw [if_pos h4]
        cases qb with
        | true =>
          have q0 : qu = 0 := Classical.byContradiction (fun h => by cases UA h)
          subst q0
          rw [if_pos rfl]
          exact ts_or1 x v o res t g l.length cc j w hj hB h4 qa IA
        | false =>
          rw [if_neg (by decide)]
          by_cases hu : qu = 0
          · rw [if_pos hu]
            subst hu
            exact ts_or2 x v o res t g l.length cc j w hj hB h4 qa pu pa pb IA IB
          · rw [if_neg hu]
            exact ts_or3 x v o res t g l.length cc j w hj hB h4 qu qa hu IA
      rw [if_neg h4]
      exact ts_none x v o res t g l.length cc j w hj hB h1 h2 h3 h4
theorem rtest_c (l : List Cv) (hK : KidsC (csOf l)) (hL : CLen 8193 (csOf l)) (A : Option Addr) (cc : Nat) (v o : NV) (e eo : Env0) (res t : Int) : ∀ (f : Nat) (at_ : Int) (w : World), (at_ < (f : Int) ∨ (l.length : Int) ≤ at_) → CRd w A l → ROK w v e → ROK w o eo →
    Calls Try.prog 17 #[.slice A l.length cc, .int .i64 at_, envA v o res t] w fun e' w' => e' = .returned (tV (tF (csOf l) eo res t e f at_)) ∧ Below w.heap.size w w' := by
  intro f
  induction f with
  | zero =>
    intro at_ w hat hE hv ho
    exact rt_out v o res t at_ A l.length cc w (by omega)
  | succ f ih =>
    intro at_ w hat hE hv ho
    by_cases hout : at_ < 0 ∨ (l.length : Int) ≤ at_
    · rw [tF, if_pos (by rw [csOf_len]; exact hout)]
      exact rt_out v o res t at_ A l.length cc w hout
    · obtain ⟨j, rfl⟩ := Int.eq_ofNat_of_zero_le (show 0 ≤ at_ by omega)
      have hj : j < l.length := by omega
      have hne : l ≠ [] := by intro x; rw [x] at hj; simp at hj
      obtain ⟨g, rfl, hg⟩ := hE hne
      obtain ⟨x, hget⟩ : ∃ x, l[j]? = some x := ⟨l[j], by rw [List.getElem?_eq_getElem hj]⟩
      have hcs : (csOf l)[j]? = some x.c := by unfold csOf; rw [List.getElem?_map, hget]; rfl
      have hgd : (csOf l).getD j cd0 = x.c := by rw [List.getD_eq_getElem?_getD, hcs]; rfl
      obtain ⟨hB, hEx, hEy⟩ := hg j x hget
      obtain ⟨⟨⟨ka, kb⟩, ka1, kb1⟩, kx, ky⟩ := hK j x.c hcs
      obtain ⟨lx, ly⟩ := hL x.c (List.mem_of_getElem? hcs)
      rw [tF, if_neg (by rw [csOf_len]; exact hout)]
      simp only [Int.toNat_natCast, hgd]
      have IA : ∀ W, Below w.heap.size w W → Calls Try.prog 17 #[.slice (some ⟨g, 0, none⟩) l.length cc, .int .i64 x.c.a, envA v o res t] W fun e' w' => e' = .returned (tV (tF (csOf l) eo res t e f x.c.a)) ∧ Below W.heap.size W w' := fun W hb => ih x.c.a W (by omega) (hE.below hb) (hv.below hb) (ho.below hb)
      have IB : ∀ W, Below w.heap.size w W → Calls Try.prog 17 #[.slice (some ⟨g, 0, none⟩) l.length cc, .int .i64 x.c.b, envA v o res t] W fun e' w' => e' = .returned (tV (tF (csOf l) eo res t e f x.c.b)) ∧ Below W.heap.size W w' := fun W hb => ih x.c.b W (by omega) (hE.below hb) (hv.below hb) (ho.below hb)
      have UA := tF_ub (csOf l) eo res t e f x.c.a
      obtain ⟨⟨qb, qu, qa⟩, hq⟩ : ∃ q, tF (csOf l) eo res t e f x.c.a = q := ⟨_, rfl⟩
      obtain ⟨⟨pb, pu, pa⟩, hp⟩ : ∃ q, tF (csOf l) eo res t e f x.c.b = q := ⟨_, rfl⟩
      rw [hq] at IA UA ⊢
      rw [hp] at IB ⊢
      simp only at UA ⊢
      by_cases h1 : x.c.k = 1
      · rw [if_pos h1]
        have NA : ∀ W, Below w.heap.size w W → Calls Try.prog 25 #[.slice x.ax x.c.x.length x.cx, .int .i64 ((x.c.x.length : Int) - 1), envA v o res t] W fun e' w' => e' = .returned (gtV (vF x.c.x eo res t x.c.x.length e ((x.c.x.length : Int) - 1))) ∧ Below W.heap.size W w' := fun W hb => rvalue_c x.c.x kx x.ax x.cx o eo res t x.c.x.length _ v e W (by omega) (hEx.below hb) (hv.below hb) (ho.below hb)
        have NB : ∀ W, Below w.heap.size w W → Calls Try.prog 25 #[.slice x.ay x.c.y.length x.cy, .int .i64 ((x.c.y.length : Int) - 1), envA v o res t] W fun e' w' => e' = .returned (gtV (vF x.c.y eo res t x.c.y.length e ((x.c.y.length : Int) - 1))) ∧ Below W.heap.size W w' := fun W hb => rvalue_c x.c.y ky x.ay x.cy o eo res t x.c.y.length _ v e W (by omega) (hEy.below hb) (hv.below hb) (ho.below hb)
        unfold relT
        obtain ⟨a, ha⟩ : ∃ a, vF x.c.x eo res t x.c.x.length e ((x.c.x.length : Int) - 1) = a := ⟨_, rfl⟩
        obtain ⟨b, hb⟩ : ∃ b, vF x.c.y eo res t x.c.y.length e ((x.c.y.length : Int) - 1) = b := ⟨_, rfl⟩
        rw [ha] at NA ⊢
        rw [hb] at NB ⊢
        simp only
        by_cases hu : a.ub = 0
        · rw [if_pos hu]
          by_cases hv2 : b.ub = 0
          · rw [if_pos hv2]
            exact rt_rel3 x v o res t g l.length cc j w hj hB h1 _ _ rfl rfl (by omega) (by omega) a b NA NB hu hv2 _ _ _ _ rfl rfl rfl rfl
          · rw [if_neg hv2]
            exact rt_rel2 x v o res t g l.length cc j w hj hB h1 _ _ rfl rfl (by omega) (by omega) a b NA NB hu hv2
        · rw [if_neg hu]
          exact rt_rel1 x v o res t g l.length cc j w hj hB h1 _ _ rfl rfl (by omega) (by omega) a b NA NB hu
      rw [if_neg h1]
      by_cases h2 : x.c.k = 2
      · rw [if_pos h2]
        exact rt_not x v o res t g l.length cc j w hj hB h2 qb qu qa IA
      rw [if_neg h2]
      by_cases h3 : x.c.k = 3
      · rw [if_pos h3]
        cases qb with
        | true =>
          have q0 : qu = 0 := Classical.byContradiction (fun h => by cases UA h)
          subst q0
          rw [if_pos rfl]
          exact rt_and2 x v o res t g l.length cc j w hj hB h3 qa pu pa pb IA IB
        | false =>
          rw [if_neg (by decide)]
          exact rt_and1 x v o res t g l.length cc j w hj hB h3 qu qa IA
      rw [if_neg h3]
      by_cases h4 : x.c.k = 4
      · rw [if_pos h4]
        cases qb with
        | true =>
          have q0 : qu = 0 := Classical.byContradiction (fun h => by cases UA h)
          subst q0
          rw [if_pos rfl]
          exact rt_or1 x v o res t g l.length cc j w hj hB h4 qa IA
        | false =>
          rw [if_neg (by decide)]
          by_cases hu : qu = 0
          · rw [if_pos hu]
            subst hu
            exact rt_or2 x v o res t g l.length cc j w hj hB h4 qa pu pa pb IA IB
          · rw [if_neg hu]
            exact rt_or3 x v o res t g l.length cc j w hj hB h4 qu qa hu IA
      rw [if_neg h4]
      exact rt_none x v o res t g l.length cc j w hj hB h1 h2 h3 h4
end Go.Proofs.Ytlhenpocaagbjaa.C

namespace Go.Proofs.Ytlhenpocaagbjaa.C
open Go.RowKit
set_option linter.unusedSimpArgs false
set_option linter.unusedVariables false
theorem IntRow.rowc8 {w : World} {A : Option Addr} {n : Nat} {zs : List Int} (h : IntRow w .i64 A n zs) : RowC w A n (fun j => zs.getD j 0) :=
  ⟨by have := h.2.1; unfold maxLen at this; exact this, fun h0 => by obtain ⟨ad, e, _, hc⟩ := h.2.2.2 h0; exact ⟨ad, e, hc⟩⟩
/-- The binds of the names. -/
def nmBs : List Bd := [⟨⟨#[120]⟩, 5, 0, 0⟩, ⟨⟨#[121]⟩, 2, 0, 1⟩, ⟨⟨#[103, 48]⟩, 6, 0, 2⟩, ⟨⟨#[103, 97]⟩, 3, 4, 3⟩]
theorem names8_c (w : World) : Calls Try.prog 11 #[] w fun e w' => e = .returned (.slice (some ⟨w.heap.size, 0, none⟩) 4 4) ∧ BL w' w.heap.size nmBs ∧ Below w.heap.size w w' := by
  go_enter Try.func11, Try.ntmps11
  go_wp2
  go_ret
  refine ⟨rfl, ⟨by simp, fun j b hj => ?_⟩, (by repeat' (first | exact Below.refl _ _ | (refine Below.alloc ?_ ?_ _) | (refine Below.setCell ?_ ?_ _) | (refine Below.drew ?_) | (refine below_next ?_ ?_ (by assumption)) | omega | (simp; done) | (simp; omega)))⟩
  match j, hj with
  | 0, hj => obtain rfl : (⟨⟨#[120]⟩, 5, 0, 0⟩ : Bd) = b := by simpa [nmBs] using hj
             simp [go_sem]
  | 1, hj => obtain rfl : (⟨⟨#[121]⟩, 2, 0, 1⟩ : Bd) = b := by simpa [nmBs] using hj
             simp [go_sem]
  | 2, hj => obtain rfl : (⟨⟨#[103, 48]⟩, 6, 0, 2⟩ : Bd) = b := by simpa [nmBs] using hj
             simp [go_sem]
  | 3, hj => obtain rfl : (⟨⟨#[103, 97]⟩, 3, 4, 3⟩ : Bd) = b := by simpa [nmBs] using hj
             simp [go_sem]
  | n + 4, hj => simp [nmBs] at hj
/-- Two memories that answer alike. -/
def GetA (w : World) (fn : FuncId) (p : Nat) (get : Int → Int → Int) : Prop := ∀ w', Below w.heap.size w w' → ∀ id at' : Int, Calls Try.prog fn #[.pointer (some ⟨p, 0, none⟩), .int .i64 id, .int .i64 at'] w' fun e' w'' => ∃ b, e' = .returned (.tuple #[.int .i64 (get id at'), .bool b]) ∧ w' = w''
theorem GetA.below {w W : World} {fn : FuncId} {p : Nat} {get : Int → Int → Int} (h : GetA w fn p get) (hb : Below w.heap.size w W) : GetA W fn p get := fun w' hb2 => h w' (hb.trans (hb2.mono hb.size))
theorem TwP.gets {w : World} {B p1 p2 n : Nat} (h : TwP w B p1 p2 n) : ∃ get, GetA w 59 p1 get ∧ GetA w 36 p2 get := by
  obtain ⟨hB, ts, ln, f, L1, L2, ad1, ad2, cp1, cp2, hp⟩ := h
  refine ⟨fun id at' => if hasM n ln id at' = true then f id.toNat at'.toNat else 0, fun w' hb id at' => ?_, fun w' hb id at' => ?_⟩
  · have c := get_s B p1 n L1 ts ad1 ln cp1 f id at' w' (hp.below hb).a
    unfold getM at c
    refine c.mono ?_
    rintro e w'' ⟨he, hw⟩
    dsimp only
    by_cases hh : hasM n ln id at' = true
    · rw [if_pos hh] at he ⊢
      exact ⟨_, he, hw⟩
    · rw [if_neg hh] at he ⊢
      exact ⟨_, he, hw⟩
  · have c := rget_s B p2 n L2 ts ad2 ln cp2 f id at' w' (hp.below hb).b
    unfold getM at c
    refine c.mono ?_
    rintro e w'' ⟨he, hw⟩
    dsimp only
    by_cases hh : hasM n ln id at' = true
    · rw [if_pos hh] at he ⊢
      exact ⟨_, he, hw⟩
    · rw [if_neg hh] at he ⊢
      exact ⟨_, he, hw⟩
def nvOf (p g : Nat) : NV := ⟨some ⟨p, 0, none⟩, some ⟨g, 0, none⟩, 4, 4⟩
def envOf (get : Int → Int → Int) : Env0 := ⟨true, get, nmBs⟩
theorem nok_of {w : World} {p g : Nat} {get : Int → Int → Int} (h : GetA w 59 p get) (hb : BL w g nmBs) : NOK 59 w (nvOf p g) (envOf get) :=
  ⟨.inr ⟨g, 4, rfl, hb⟩, by show (4 : Nat) ≤ 100000; omega, .inr ⟨p, rfl, rfl, h⟩⟩
theorem rok_of {w : World} {p g : Nat} {get : Int → Int → Int} (h : GetA w 36 p get) (hb : BL w g nmBs) : ROK w (nvOf p g) (envOf get) :=
  ⟨⟨g, rfl, rfl, hb⟩, by show (4 : Nat) ≤ 100000; omega, rfl, p, rfl, h⟩
/-- The two environments. -/
structure Env2 (w W : World) (D1 D2 p1 p2 p3 p4 g1 g2 g3 g4 : Nat) (gn go : Int → Int → Int) (res t : Int) : Prop where
  hb : Below w.heap.size w W
  b1 : Bx6 W D1 (nvOf p1 g1) (nvOf p3 g2) res t
  b2 : Bx6 W D2 (nvOf p2 g3) (nvOf p4 g4) res t
  m1 : GetA W 59 p1 gn
  m2 : GetA W 36 p2 gn
  m3 : GetA W 59 p3 go
  m4 : GetA W 36 p4 go
  n1 : BL W g1 nmBs
  n2 : BL W g2 nmBs
  n3 : BL W g3 nmBs
  n4 : BL W g4 nmBs
theorem Env2.below {w W W' : World} {D1 D2 p1 p2 p3 p4 g1 g2 g3 g4 : Nat} {gn go : Int → Int → Int} {res t : Int} (h : Env2 w W D1 D2 p1 p2 p3 p4 g1 g2 g3 g4 gn go res t) (hb : Below W.heap.size W W') : Env2 w W' D1 D2 p1 p2 p3 p4 g1 g2 g3 g4 gn go res t :=
  ⟨below_next h.hb h.hb.size hb, h.b1.below hb, h.b2.below hb, h.m1.below hb, h.m2.below hb, h.m3.below hb, h.m4.below hb, h.n1.below hb, h.n2.below hb, h.n3.below hb, h.n4.below hb⟩
theorem gt_eta (g : Gt) : g = ⟨g.v, g.t, g.ub, g.at_⟩ := rfl
end Go.Proofs.Ytlhenpocaagbjaa.C

namespace Go.Proofs.Ytlhenpocaagbjaa.C
open Go.RowKit
set_option linter.unusedSimpArgs false
set_option linter.unusedVariables false
/-- The memories in the loop of EvalTests. -/
structure T4 (w W : World) (A : Option Addr) (cv : List Cv) (p1 p2 p3 p4 : Nat) (gn go : Int → Int → Int) : Prop where
  hb : Below w.heap.size w W
  rd : CRd W A cv
  m1 : GetA W 59 p1 gn
  m2 : GetA W 36 p2 gn
  m3 : GetA W 59 p3 go
  m4 : GetA W 36 p4 go
theorem T4.below {w W W' : World} {A : Option Addr} {cv : List Cv} {p1 p2 p3 p4 : Nat} {gn go : Int → Int → Int} (h : T4 w W A cv p1 p2 p3 p4 gn go) (hb : Below W.heap.size W W') : T4 w W' A cv p1 p2 p3 p4 gn go :=
  ⟨below_next h.hb h.hb.size hb, h.rd.below hb, h.m1.below hb, h.m2.below hb, h.m3.below hb, h.m4.below hb⟩
set_option maxRecDepth 100000 in
set_option maxHeartbeats 12800000 in
theorem evalTests_c (s : ByteArray) (A B : Option Addr) (n c1 m c2 : Nat) (now was : List Int) (result : Int) (w : World) (h1 : IntRow w .i64 A n now) (h2 : IntRow w .i64 B m was) :
    Calls Try.prog 5 #[.string s, .slice A n c1, .slice B m c2, .int .i64 result] w fun e w' => e = .returned (.bool true) ∧ Below w.heap.size w w' := by
  have x1 := h1.rowc8.1
  have x2 := h2.rowc8.1
  have H := Lib.hid (And.intro h1.rowc8 h2.rowc8)
  clear h1 h2
  by_cases l1 : 400 < s.size
  · have q1 : (400 : Int) < (s.size : Int) := by omega
    have q2 : decide (400 < s.size) = true := decide_eq_true l1
    go_enter Try.func5, Try.ntmps5
    go_wp2_with (go_at_call 8; refine (awake8_c _).mono ?_; rintro e w' ⟨rfl, hb⟩)
    go_ret
    exact ⟨rfl, hb⟩
  have q1 : decide (400 < s.size) = false := decide_eq_false l1
  by_cases l2 : 20 < n
  · have q2 : decide (20 < n) = true := decide_eq_true l2
    go_enter Try.func5, Try.ntmps5
    go_wp2_with (go_at_call 8; refine (awake8_c _).mono ?_; rintro e w' ⟨rfl, hb⟩)
    go_ret
    exact ⟨rfl, hb⟩
  have q2 : decide (20 < n) = false := decide_eq_false l2
  by_cases l3 : 20 < m
  · have q3 : decide (20 < m) = true := decide_eq_true l3
    go_enter Try.func5, Try.ntmps5
    go_wp2_with (go_at_call 8; refine (awake8_c _).mono ?_; rintro e w' ⟨rfl, hb⟩)
    go_ret
    exact ⟨rfl, hb⟩
  have q3 : decide (20 < m) = false := decide_eq_false l3
  have HCO := r_cond_c s w (by omega)
  obtain ⟨L, hL⟩ : ∃ L, s.data.toList = L := ⟨_, rfl⟩
  rw [hL] at HCO
  clear hL
  go_enter Try.func5, Try.ntmps5
  go_upto_region 4 with (go_at_call 15; refine HCO.mono ?_; rintro e w0 ⟨cv, AC, cc, EE, PP, hx, rfl, hE, hb0⟩; have HX := Lib.hid (And.intro hx (And.intro hE.rd hb0)); have HLN : cv.length ≤ 8194 := (by have := hx.cnt; simp only at this; rwa [csOf_len] at this); have HBO1 := both_c A n c1 _ w0 (H.out.1.below hb0); clear hx hE hb0 HCO)
  go_upto_region 5 with (go_at_call 10; refine HBO1.mono ?_; rintro e w1 ⟨p1, p2, rfl, hb1, ht1⟩; have hb1' := below_next HX.out.2.2 HX.out.2.2.size hb1; have HBO2 := both_c B m c2 _ w1 (H.out.2.below hb1'); have HB1 := Lib.hid (And.intro hb1' (And.intro hb1 ht1.gets)); clear hb1 hb1' ht1 HBO1)
  go_upto_region 8 with (go_at_call 10; refine HBO2.mono ?_; rintro e w2 ⟨p3, p4, rfl, hb2, ht2⟩; have HB2 := Lib.hid (And.intro (below_next HB1.out.1 HB1.out.1.size hb2) (And.intro hb2 ht2.gets)); clear hb2 ht2 HBO2)
  obtain ⟨gn, hgn1, hgn2⟩ := HB1.out.2.2
  obtain ⟨go, hgo1, hgo2⟩ := HB2.out.2.2
  have HM : Hid (T4 w w2 AC cv p1 p2 p3 p4 gn go) := Lib.hid ⟨HB2.out.1, (HX.out.2.1.below HB1.out.2.1).below HB2.out.2.1, hgn1.below HB2.out.2.1, hgn2.below HB2.out.2.1, hgo1, hgo2⟩
  have HK : Hid (KidsC (csOf cv) ∧ CLen 8193 (csOf cv)) := Lib.hid ⟨HX.out.1.kids, HX.out.1.len⟩
  clear hgn1 hgn2 hgo1 hgo2 HB1 HB2 HX H
  have NM : ∀ W, Calls Try.prog 11 #[] W fun e w' => ∃ g, e = .returned (.slice (some ⟨g, 0, none⟩) 4 4) ∧ BL w' g nmBs ∧ Below W.heap.size W w' := fun W => (names8_c W).mono (fun e w' hh => ⟨_, hh.1, hh.2.1, hh.2.2⟩)
  obtain ⟨N, hN⟩ : ∃ k, cv.length = k := ⟨_, rfl⟩
  have VC : ∀ W, T4 w W AC cv p1 p2 p3 p4 gn go → ∀ g1 g2, BL W g1 nmBs → BL W g2 nmBs → ∀ i : Int, ∀ b u a, tF (csOf cv) (envOf go) result 5 (envOf gn) cv.length i = (b, u, a) → Calls Try.prog 16 #[.slice AC N cc, .int .i64 i, .agg #[.pointer (some ⟨p1, 0, none⟩), .slice (some ⟨g1, 0, none⟩) 4 4, .pointer (some ⟨p3, 0, none⟩), .slice (some ⟨g2, 0, none⟩) 4 4, .int .i64 result, .int .i64 5]] W fun e w' => e = .returned (.tuple #[.bool b, .int .i64 u, .int .i64 a]) ∧ Below W.heap.size W w' := fun W h g1 g2 k1 k2 i b u a hg => by
    have := test_c cv HK.out.1 HK.out.2 AC cc (nvOf p1 g1) (nvOf p3 g2) (envOf gn) (envOf go) result 5 cv.length i W (by omega) h.rd (nok_of h.m1 k1) (nok_of h.m3 k2)
    rw [hg, hN] at this
    exact this
  have RC : ∀ W, T4 w W AC cv p1 p2 p3 p4 gn go → ∀ g1 g2, BL W g1 nmBs → BL W g2 nmBs → ∀ i : Int, ∀ b u a, tF (csOf cv) (envOf go) result 5 (envOf gn) cv.length i = (b, u, a) → Calls Try.prog 17 #[.slice AC N cc, .int .i64 i, .agg #[.pointer (some ⟨p2, 0, none⟩), .slice (some ⟨g1, 0, none⟩) 4 4, .pointer (some ⟨p4, 0, none⟩), .slice (some ⟨g2, 0, none⟩) 4 4, .int .i64 result, .int .i64 5]] W fun e w' => e = .returned (.tuple #[.bool b, .int .i64 u, .int .i64 a]) ∧ Below W.heap.size W w' := fun W h g1 g2 k1 k2 i b u a hg => by
    have := rtest_c cv HK.out.1 HK.out.2 AC cc (nvOf p2 g1) (nvOf p4 g2) (envOf gn) (envOf go) result 5 cv.length i W (by omega) h.rd (rok_of h.m2 k1) (rok_of h.m4 k2)
    rw [hg, hN] at this
    exact this
  have VC := Lib.hid VC
  have RC := Lib.hid RC
  have hN2 : N ≤ 8194 := by omega
  simp only [hN]
  go_wp2_with fail
  go_loopw [18] (fun i wr => ∃ k : Nat, k ≤ N + 2 ∧ i = .int .i64 ((k : Int) - 1) ∧ Hid (T4 w wr AC cv p1 p2 p3 p4 gn go)) (fun i _ => N + 2 - (intOf i + 1).toNat)
  case atStart => exact ⟨0, by omega, rfl, HM⟩
  case round =>
    clear HM
    obtain ⟨k, hk, rfl, HI⟩ := hrel
    obtain ⟨wo, rfl⟩ : ∃ wo : World, wo = wr := ⟨_, rfl⟩
    by_cases hlt : k ≤ N + 1
    · have c1 : (k : Int) - 1 ≤ (N : Int) := by omega
      have ek : IntKind.i64.wrap ((k : Int) - 1 + 1) = (k : Int) := by rw [IntWalk.i64_in _ (by omega)]; omega
      obtain ⟨⟨b, u, a⟩, hg⟩ : ∃ g, tF (csOf cv) (envOf go) result 5 (envOf gn) cv.length ((k : Int) - 1) = g := ⟨_, rfl⟩
      have HG := Lib.hid hg
      clear hg
      go_upto_region 12 with (first | (go_at_call 11; refine (NM wo).mono ?_; rintro e w3 ⟨g1, rfl, hg1, hb3⟩; have HI := Lib.hid (HI.out.below hb3); have G1 := Lib.hid hg1; clear hg1 hb3) | (go_at_call 11; refine (NM w3).mono ?_; rintro e w4 ⟨g2, rfl, hg2, hb4⟩; have HI := Lib.hid (HI.out.below hb4); have V1 := VC.out w4 HI.out g1 g2 (G1.out.below hb4) hg2 _ _ _ _ HG.out; clear hg2 hb4) | (go_at_call 16; refine V1.mono ?_; rintro e w5 ⟨rfl, hb5⟩; have HI := Lib.hid (HI.out.below hb5); clear hb5 V1))
      go_wp2_with (first | (go_at_call 11; refine (NM w5).mono ?_; rintro e w6 ⟨g3, rfl, hg3, hb6⟩; have HI := Lib.hid (HI.out.below hb6); have G3 := Lib.hid hg3; clear hg3 hb6) | (go_at_call 11; refine (NM w6).mono ?_; rintro e w7 ⟨g4, rfl, hg4, hb7⟩; have HI := Lib.hid (HI.out.below hb7); have R1 := RC.out w7 HI.out g3 g4 (G3.out.below hb7) hg4 _ _ _ _ HG.out; clear hg4 hb7) | (go_at_call 17; refine R1.mono ?_; rintro e w8 ⟨rfl, hb8⟩; have HI := Lib.hid (HI.out.below hb8); clear hb8 R1))
      exact ⟨⟨k + 1, by omega, by first | rfl | go_num | (congr 1; omega), HI⟩, by simp [intOf]; omega⟩
    · have c1 : ¬ (k : Int) - 1 ≤ (N : Int) := by omega
      have c2 : decide ((k : Int) - 1 ≤ (N : Int)) = false := decide_eq_false c1
      go_wp2_with (go_at_call 8; refine (awake8_c _).mono ?_; rintro e wb ⟨rfl, hbb⟩; have HFIN := Lib.hid (below_next HI.out.hb HI.out.hb.size hbb); clear hbb)
      go_ret
      exact ⟨rfl, HFIN.out⟩
end Go.Proofs.Ytlhenpocaagbjaa.C

namespace Go.Proofs.Ytlhenpocaagbjaa.evalTests
open Go.ChangeShapes Go.WideShapes Go.ChangeAt Go.RowKit
open Go.ChangeMaps (open_string shut_string)
set_option linter.unusedVariables false
set_option linter.unusedSimpArgs false
theorem own : ownKnob Try.prog.godebug = none := by kernel_rfl
theorem laidOut : laidOutB Try.prog = true := by kernel_rfl
set_option maxRecDepth 100000 in
theorem lifted (os : Os) (started : os.Started) (H : Type) (enc : TypeId × Value → H) :
    ReturnsInHanded {} Try.checked os 5 .any (Rows.evalTestsSpec.pre6 enc Try.prog Try.f5 Rows.evalTestsRow.domain false) (Rows.evalTestsSpec.post enc Try.prog Try.f5 false true false false) := by
  refine returnsInHanded_of_change_sized (C := Try.checked) own started (by kernel_rfl) Try.func5
    (ChangeSpec.witness6 (enc := enc) (C := Try.checked) false ⟨#[], #[.string ByteArray.empty, .slice none 0 0, .slice none 0 0, .int .i64 0], []⟩ 8 (by kernel_rfl) (by kernel_rfl) (by kernel_rfl) (by kernel_rfl)) ?_
  intro W base args ds gs before hval0 hW hcnd hsz0 _
  have hsz : (DataW.weightsEach Try.prog (Try.f5.params.toList ++ Rows.evalTestsSpec.plain.varTypes Try.prog) (ds ++ gs)).all (· ≤ reachBytes) = true := hsz0
  have hval : ∀ (j : Nat) t v, Try.f5.params[j]? = some t → args[j]? = some v → Value.okWide Try.prog W .any base t v := hval0
  have hW' := hW
  obtain ⟨p, q, hA0, hV, rfl, hfz, hnd⟩ := hW
  have hA : DataW.TrodAll enc Try.prog W 0 (fun _ => true) true Try.f5.params.toList args.toList ds p := hA0
  rw [Try.params5] at hA hval hsz
  obtain ⟨v0, vs0, d0, ds0, p0, q0, hargs, rfl, rfl, h0, r0⟩ := trodAll_cons hA
  obtain ⟨v1, vs1, d1, ds1, p1, q1, rfl, rfl, rfl, h1, r1⟩ := trodAll_cons r0
  obtain ⟨v2, vs2, d2, ds2, p2, q2, rfl, rfl, rfl, h2, r2⟩ := trodAll_cons r1
  obtain ⟨v3, vs3, d3, ds3, p3, q3, rfl, rfl, rfl, h3, r3⟩ := trodAll_cons r2
  obtain ⟨rfl, rfl, rfl⟩ := trodAll_nil r3
  obtain rfl : args = #[v0, v1, v2, v3] := by cases args; simp_all
  obtain ⟨rfl, rfl⟩ := trodVars_none hV
  obtain ⟨a0, rfl, rfl, rfl, y0⟩ := open_string Try.underlying9 (hval 0 9 v0 rfl rfl) h0
  have w0 : a0.size ≤ 140737488351232 := by
    have z := sized_string hsz (j := 0) (t := 9) rfl rfl
    rw [Array.length_toList] at z
    exact z
  obtain ⟨a1, len1, cap1, rfl⟩ := okWide_slice Try.underlying22 (hval 1 22 v1 rfl rfl)
  have k1 := h1
  have lt1 : ∀ x ∈ p1, x.block < W.heap.size := by obtain ⟨m, hm⟩ := k1; exact DataW.trod_lt m _ _ _ hm
  obtain ⟨z1, w1⟩ := C.open_row Try.underlying22 Try.underlying3 (by kernel_rfl) h1
  obtain ⟨a2, len2, cap2, rfl⟩ := okWide_slice Try.underlying22 (hval 2 22 v2 rfl rfl)
  have k2 := h2
  have lt2 : ∀ x ∈ p2, x.block < W.heap.size := by obtain ⟨m, hm⟩ := k2; exact DataW.trod_lt m _ _ _ hm
  obtain ⟨z2, w2⟩ := C.open_row Try.underlying22 Try.underlying3 (by kernel_rfl) h2
  obtain ⟨a3, rfl, rfl, rfl, w3⟩ := open_int Try.underlying3 (hval 3 3 v3 rfl rfl) h3
  clear hA0 hval0 hsz0 hsz
  refine (C.evalTests_c a0 a1 a2 len1 cap1 len2 cap2 z1 z2 a3 W w1 w2).mono fun e W' ⟨he, bel⟩ => ?_
  subst he
  exact ⟨_, rfl, _, _, _, [], _, [], hW', trodAll_mk1 (shut_bool Try.underlying4 _), (trodAll_cons_mk (shut_string Try.underlying9 y0) (trodAll_cons_mk (Below.trod laidOut (by kernel_rfl) (of_decide_eq_true (by kernel_rfl)) k1 bel lt1) (trodAll_cons_mk (Below.trod laidOut (by kernel_rfl) (of_decide_eq_true (by kernel_rfl)) k2 bel lt2) (trodAll_cons_mk (shut_int Try.underlying3 w3) trodAll_mk0)))), rfl, bel.frame _, fun h => by cases h⟩
theorem over : Rows.evalTestsRow.holds Try.pinned (OpenSpec.ofChange Rows.evalTestsSpec) :=
  OpenClaim.holds_of_wide 5 Try.f5 rfl rfl rfl rfl rfl rfl rfl ⟨rfl, rfl, rfl, rfl, rfl⟩ rfl rfl rfl rfl rfl (by kernel_rfl) Try.func5 (by kernel_rfl)
    (of_decide_eq_true (by kernel_rfl)) (by unfold Func.isWrapper; first | (rw [if_pos (by decide +kernel)]; kernel_rfl) | (rw [if_neg (by decide +kernel)]; exact ⟨rfl, rfl⟩))
    (fun os started H enc _ => lifted os started H enc)
theorem proved : Rows.EvalTestsSaid := over
#print axioms proved
end Go.Proofs.Ytlhenpocaagbjaa.evalTests
namespace Go.Proofs.Ytlhenpocaagbjaa
/-- The row, under a short name, for the claim. -/
theorem evalTests_holds : Rows.EvalTestsSaid := evalTests.proved
end Go.Proofs.Ytlhenpocaagbjaa

