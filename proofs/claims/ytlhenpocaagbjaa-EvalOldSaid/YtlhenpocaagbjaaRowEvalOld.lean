/- Old of a name is what it had, of an expression what its names had; places beyond an array are undefined, then as now: for every x, y and at calliperlaw8.EvalOld answers true. No condition. -/
import Derived.Test.YtlhenpocaagbjaaGE
import Derived.Test.YtlhenpocaagbjaaGM
import Derived.OwnWalk
import Derived.Test.YtlhenpocaagbjaaLexD
import Derived.Laws.BytesArg
import Derived.Test.YtlhenpocaagbjaaRows
import Derived.WalkKit
import Derived.ProofKit
import Derived.OpenShut
import Derived.ShutString
import Derived.ChangeOld
import Derived.Below
import Derived.SizedLaws
namespace Go.Proofs.Ytlhenpocaagbjaa.C
open Go.RowKit
set_option linter.unusedSimpArgs false
set_option linter.unusedVariables false
/-- Whether a node of a condition holds, with fuel: yes or no, undefined, where. -/
def relT (old : Env0) (res t : Int) (now : Env0) (c : Cd) : Bool × Int × Int :=
  let a := vF c.x old res t c.x.length now ((c.x.length : Int) - 1)
  let b := vF c.y old res t c.y.length now ((c.y.length : Int) - 1)
  if a.ub = 0 then (if b.ub = 0 then (relI c.rel (wrapT (mixT 8 a.t b.t) a.v) (wrapT (mixT 8 a.t b.t) b.v), 0, 0) else (false, b.ub, b.at_)) else (false, a.ub, a.at_)
def tF (l : List Cd) (old : Env0) (res t : Int) (now : Env0) : Nat → Int → Bool × Int × Int
  | 0, _ => (false, 0, 0)
  | f + 1, at_ =>
    if at_ < 0 ∨ (l.length : Int) ≤ at_ then (false, 0, 0)
    else
      let c := l.getD at_.toNat cd0
      if c.k = 1 then relT old res t now c
      else if c.k = 2 then (!(tF l old res t now f c.a).1 && decide ((tF l old res t now f c.a).2.1 = 0), (tF l old res t now f c.a).2.1, (tF l old res t now f c.a).2.2)
      else if c.k = 3 then (if (tF l old res t now f c.a).1 = true then tF l old res t now f c.b else (false, (tF l old res t now f c.a).2.1, (tF l old res t now f c.a).2.2))
      else if c.k = 4 then (if (tF l old res t now f c.a).1 = true then (true, (tF l old res t now f c.a).2.1, (tF l old res t now f c.a).2.2) else if (tF l old res t now f c.a).2.1 = 0 then tF l old res t now f c.b else (false, (tF l old res t now f c.a).2.1, (tF l old res t now f c.a).2.2))
      else (false, 0, 0)
/-- What is undefined does not hold. -/
theorem tF_ub (l : List Cd) (old : Env0) (res t : Int) (now : Env0) : ∀ (f : Nat) (at_ : Int), (tF l old res t now f at_).2.1 ≠ 0 → (tF l old res t now f at_).1 = false := by
  intro f
  induction f with
  | zero => intro at_ h; exact absurd rfl h
  | succ f ih =>
    intro at_ h
    rw [tF] at h ⊢
    by_cases h1 : at_ < 0 ∨ (l.length : Int) ≤ at_
    · rw [if_pos h1]
    · rw [if_neg h1] at h ⊢
      simp only at h ⊢
      obtain ⟨c, hc⟩ : ∃ c, l.getD at_.toNat cd0 = c := ⟨_, rfl⟩
      rw [hc] at h ⊢
      by_cases k1 : c.k = 1
      · rw [if_pos k1] at h ⊢
        unfold relT at h ⊢
        simp only at h ⊢
        split at h
        · rename_i q1
          split at h
          · exact absurd rfl h
          · rename_i q2
            rw [if_pos q1, if_neg q2]
        · rename_i q1
          rw [if_neg q1]
      rw [if_neg k1] at h ⊢
      by_cases k2 : c.k = 2
      · rw [if_pos k2] at h ⊢
        simp only at h ⊢
        rw [decide_eq_false h, Bool.and_false]
      rw [if_neg k2] at h ⊢
      by_cases k3 : c.k = 3
      · rw [if_pos k3] at h ⊢
        by_cases q : (tF l old res t now f c.a).1 = true
        · rw [if_pos q] at h ⊢
          exact ih _ h
        · rw [if_neg q]
      rw [if_neg k3] at h ⊢
      by_cases k4 : c.k = 4
      · rw [if_pos k4] at h ⊢
        by_cases q : (tF l old res t now f c.a).1 = true
        · rw [if_pos q] at h
          simp only at h
          have := ih _ h
          rw [q] at this
          cases this
        · rw [if_neg q] at h ⊢
          by_cases q2 : (tF l old res t now f c.a).2.1 = 0
          · rw [if_pos q2] at h ⊢
            exact ih _ h
          · rw [if_neg q2]
      rw [if_neg k4]
theorem BxC.box1 {W : World} {D : Nat} {x : Cv} (h : BxC W D 0 x) : W.cell? ⟨D, 1, none⟩ = some (.int .i64 x.c.rel) := h.c1
theorem BxC.box2 {W : World} {D : Nat} {x : Cv} (h : BxC W D 0 x) : W.cell? ⟨D, 2, none⟩ = some (.slice x.ax x.c.x.length x.cx) := h.c2
theorem BxC.box3 {W : World} {D : Nat} {x : Cv} (h : BxC W D 0 x) : W.cell? ⟨D, 3, none⟩ = some (.slice x.ay x.c.y.length x.cy) := h.c3
theorem BxC.box4 {W : World} {D : Nat} {x : Cv} (h : BxC W D 0 x) : W.cell? ⟨D, 4, none⟩ = some (.int .i64 x.c.a) := h.c4
theorem BxC.box5 {W : World} {D : Nat} {x : Cv} (h : BxC W D 0 x) : W.cell? ⟨D, 5, none⟩ = some (.int .i64 x.c.b) := h.c5
theorem BxC.box6 {W : World} {D : Nat} {x : Cv} (h : BxC W D 0 x) : W.cell? ⟨D, 6, none⟩ = some (.int .i64 x.c.at_) := h.c6
/-- Inside Test. -/
structure TsI (w W : World) (x : Cv) (v o : NV) (res t : Int) : Prop where
  hb : Below w.heap.size w W
  b6 : Bx6 W w.heap.size v o res t
  bc : BxC W (w.heap.size + 1) 0 x
theorem TsI.below {w W W' : World} {x : Cv} {v o : NV} {res t : Int} (h : TsI w W x v o res t) (hb : Below W.heap.size W W') : TsI w W' x v o res t := ⟨below_next h.hb h.hb.size hb, h.b6.below hb, h.bc.below hb⟩
set_option maxRecDepth 100000 in
set_option maxHeartbeats 6400000 in
theorem ts_rel1 (x : Cv) (v o : NV) (res t : Int) (g len cc j : Nat) (w : World) (hj : j < len) (hE : BxC w g (j * 7) x) (hk : x.c.k = 1) (lx ly : Nat) (hlx : x.c.x.length = lx) (hly : x.c.y.length = ly) (hx3 : lx ≤ 300000) (hy3 : ly ≤ 300000) (a b : Gt) (HA : ∀ W, Below w.heap.size w W → Calls Try.prog 24 #[.slice x.ax lx x.cx, .int .i64 ((lx : Int) - 1), envA v o res t] W fun e' w' => e' = .returned (gtV a) ∧ Below W.heap.size W w') (HB : ∀ W, Below w.heap.size w W → Calls Try.prog 24 #[.slice x.ay ly x.cy, .int .i64 ((ly : Int) - 1), envA v o res t] W fun e' w' => e' = .returned (gtV b) ∧ Below W.heap.size W w') (hu : a.ub ≠ 0) :
    Calls Try.prog 16 #[.slice (some ⟨g, 0, none⟩) len cc, .int .i64 (j : Int), envA v o res t] w fun e' w' => e' = .returned (.tuple #[.bool false, .int .i64 a.ub, .int .i64 a.at_]) ∧ Below w.heap.size w w' := by
  have HK : Hid (x.c.k = 1) := Lib.hid hk
  clear hk
  have ex1 : IntKind.i64.wrap ((lx : Int) - 1) = (lx : Int) - 1 := IntWalk.i64_in _ (by omega)
  have ey1 : IntKind.i64.wrap ((ly : Int) - 1) = (ly : Int) - 1 := IntWalk.i64_in _ (by omega)
  have HLX := Lib.hid (And.intro hlx hly)
  clear hlx hly
  unfold envA gtV at HA HB
  have u0 : (a.ub == 0) = false := by rw [beq_eq_false_iff_ne]; exact hu
  have u1 : (a.ub != 0) = true := by rw [bne, u0]; rfl
  clear hu
  obtain ⟨mp, ba, bl, bc⟩ := v
  unfold envA
  simp only at HA HB
  have HE := Lib.hid hE
  have m0 := hE.c0
  have m1 := hE.c1
  have m2 := hE.c2
  have m3 := hE.c3
  have m4 := hE.c4
  have m5 := hE.c5
  have m6 := hE.c6
  have hj0 : (0 : Int) ≤ (j : Int) := by omega
  have hj1 : (j : Int) < (len : Int) := by omega
  have hg0 : g ≠ w.heap.size := by have := hE.lt; omega
  clear hE
  simp only
  go_enter Try.func16, Try.ntmps16
  go_upto_region 1 with fail
  refine at_world (fun W => Below w.heap.size w W ∧ W.heap.size = w.heap.size + 1 ∧ Bx6 W w.heap.size ⟨mp, ba, bl, bc⟩ o res t ∧ BxC W g (j * 7) x) ⟨(by repeat' (first | exact Below.refl _ _ | (refine Below.alloc ?_ ?_ _) | (refine Below.setCell ?_ ?_ _) | (refine Below.drew ?_) | (refine below_next ?_ ?_ (by assumption)) | omega | (simp; done) | (simp; omega))), by simp, ⟨by first | (simp; done) | (simp; omega), by simp [go_sem], by simp [go_sem], by simp [go_sem], by simp [go_sem], by simp [go_sem], by simp [go_sem]⟩, HE.out.below (by repeat' (first | exact Below.refl _ _ | (refine Below.alloc ?_ ?_ _) | (refine Below.setCell ?_ ?_ _) | (refine Below.drew ?_) | (refine below_next ?_ ?_ (by assumption)) | omega | (simp; done) | (simp; omega)))⟩ ?_
  rintro W0 ⟨hb0, hz0, B6, BE⟩
  clear m0 m1 m2 m3 m4 m5 m6
  have m0 := BE.c0
  have m1 := BE.c1
  have m2 := BE.c2
  have m3 := BE.c3
  have m4 := BE.c4
  have m5 := BE.c5
  have m6 := BE.c6
  go_upto_region 4 with fail
  refine at_world (fun W => TsI w W x ⟨mp, ba, bl, bc⟩ o res t) ⟨below_next hb0 hb0.size (by repeat' (first | exact Below.refl _ _ | (refine Below.alloc ?_ ?_ _) | (refine Below.setCell ?_ ?_ _) | (refine Below.drew ?_) | (refine below_next ?_ ?_ (by assumption)) | omega | (simp; done) | (simp; omega))), B6.below (by repeat' (first | exact Below.refl _ _ | (refine Below.alloc ?_ ?_ _) | (refine Below.setCell ?_ ?_ _) | (refine Below.drew ?_) | (refine below_next ?_ ?_ (by assumption)) | omega | (simp; done) | (simp; omega))), by rw [← hz0]; exact ⟨by first | (simp; done) | (simp; omega), by simp [go_sem], by simp [go_sem], by simp [go_sem], by simp [go_sem], by simp [go_sem], by simp [go_sem], by simp [go_sem]⟩⟩ ?_
  intro W1 N1
  (try simp only [hz0])
  clear m0 m1 m2 m3 m4 m5 m6 hb0 hz0 B6 BE
  have N := Lib.hid N1
  have n0 := (N1.bc).c0; have n1 := (N1.bc).box1; have n2 := (N1.bc).box2; have n3 := (N1.bc).box3; have n4 := (N1.bc).box4; have n5 := (N1.bc).box5; have n6 := (N1.bc).box6; have e0 := (N1.b6).c0; have e1 := (N1.b6).c1; have e2 := (N1.b6).c2; have e3 := (N1.b6).c3; have e4 := (N1.b6).c4; have e5 := (N1.b6).c5
  clear N1
  rw [HK.out] at n0
  rw [HLX.out.1] at n2
  rw [HLX.out.2] at n3
  go_upto_region 10 with (go_at_call 24; refine (HA _ N.out.hb).mono ?_; rintro e' w5 ⟨rfl, hb5⟩; have N := Lib.hid (N.out.below hb5); clear hb5 HA)
  refine at_world (fun W => TsI w W x ⟨mp, ba, bl, bc⟩ o res t ∧ Bx4 W w5.heap.size a) ⟨N.out.below (by repeat' (first | exact Below.refl _ _ | (refine Below.alloc ?_ ?_ _) | (refine Below.setCell ?_ ?_ _) | (refine Below.drew ?_) | (refine below_next ?_ ?_ (by assumption)) | omega | (simp; done) | (simp; omega))), ⟨by first | (simp; done) | (simp; omega), by simp [go_sem], by simp [go_sem], by simp [go_sem], by simp [go_sem], by simp [go_sem], by simp [go_sem], by simp [go_sem], by simp [go_sem]⟩⟩ ?_
  rintro W6 ⟨N6, A6⟩
  obtain ⟨D3, hD3⟩ : ∃ x, w5.heap.size = x := ⟨_, rfl⟩
  simp only [hD3] at A6 ⊢
  clear hD3 N n0 n1 n2 n3 n4 n5 n6 e0 e1 e2 e3 e4 e5
  have N := Lib.hid N6
  have AA := Lib.hid A6
  have n0 := (N6.bc).c0; have n1 := (N6.bc).box1; have n2 := (N6.bc).box2; have n3 := (N6.bc).box3; have n4 := (N6.bc).box4; have n5 := (N6.bc).box5; have n6 := (N6.bc).box6; have e0 := (N6.b6).c0; have e1 := (N6.b6).c1; have e2 := (N6.b6).c2; have e3 := (N6.b6).c3; have e4 := (N6.b6).c4; have e5 := (N6.b6).c5
  have x0 := (A6).c0; have x1 := (A6).c1; have x2 := (A6).c2; have x3 := (A6).c3; have xf0 := (A6).f0; have xf1 := (A6).f1; have xf2 := (A6).f2; have xf3 := (A6).f3
  clear N6 A6
  rw [HK.out] at n0
  rw [HLX.out.1] at n2
  rw [HLX.out.2] at n3
  go_upto_region 11 with fail
  have d0 := fun (x' : WIn (Below W6.heap.size W6)) => cell_later x'.h x2
  have d1 := fun (x' : WIn (Below W6.heap.size W6)) => cell_later x'.h x3
  refine region_in (Below W6.heap.size W6) (by kernel_rfl) (by kernel_rfl) (Below.refl _ _).drew (fun inst => ?_)
  iterate 7 (go_big_quiet_step (fail))
  refine wpQuiet_nil ?_
  intro wd hbd
  have hbz := below_next N.out.hb N.out.hb.size hbd
  go_wp2_with fail
  go_ret3
  exact ⟨rfl, hbz⟩
set_option maxRecDepth 100000 in
set_option maxHeartbeats 6400000 in
theorem ts_rel2 (x : Cv) (v o : NV) (res t : Int) (g len cc j : Nat) (w : World) (hj : j < len) (hE : BxC w g (j * 7) x) (hk : x.c.k = 1) (lx ly : Nat) (hlx : x.c.x.length = lx) (hly : x.c.y.length = ly) (hx3 : lx ≤ 300000) (hy3 : ly ≤ 300000) (a b : Gt) (HA : ∀ W, Below w.heap.size w W → Calls Try.prog 24 #[.slice x.ax lx x.cx, .int .i64 ((lx : Int) - 1), envA v o res t] W fun e' w' => e' = .returned (gtV a) ∧ Below W.heap.size W w') (HB : ∀ W, Below w.heap.size w W → Calls Try.prog 24 #[.slice x.ay ly x.cy, .int .i64 ((ly : Int) - 1), envA v o res t] W fun e' w' => e' = .returned (gtV b) ∧ Below W.heap.size W w') (hz : a.ub = 0) (hu : b.ub ≠ 0) :
    Calls Try.prog 16 #[.slice (some ⟨g, 0, none⟩) len cc, .int .i64 (j : Int), envA v o res t] w fun e' w' => e' = .returned (.tuple #[.bool false, .int .i64 b.ub, .int .i64 b.at_]) ∧ Below w.heap.size w w' := by
  have HK : Hid (x.c.k = 1) := Lib.hid hk
  clear hk
  have ex1 : IntKind.i64.wrap ((lx : Int) - 1) = (lx : Int) - 1 := IntWalk.i64_in _ (by omega)
  have ey1 : IntKind.i64.wrap ((ly : Int) - 1) = (ly : Int) - 1 := IntWalk.i64_in _ (by omega)
  have HLX := Lib.hid (And.intro hlx hly)
  clear hlx hly
  unfold envA gtV at HA HB
  have u0 : (b.ub == 0) = false := by rw [beq_eq_false_iff_ne]; exact hu
  have u1 : (b.ub != 0) = true := by rw [bne, u0]; rfl
  clear hu
  have HZ := Lib.hid hz
  clear hz
  obtain ⟨mp, ba, bl, bc⟩ := v
  unfold envA
  simp only at HA HB
  have HE := Lib.hid hE
  have m0 := hE.c0
  have m1 := hE.c1
  have m2 := hE.c2
  have m3 := hE.c3
  have m4 := hE.c4
  have m5 := hE.c5
  have m6 := hE.c6
  have hj0 : (0 : Int) ≤ (j : Int) := by omega
  have hj1 : (j : Int) < (len : Int) := by omega
  have hg0 : g ≠ w.heap.size := by have := hE.lt; omega
  clear hE
  simp only
  go_enter Try.func16, Try.ntmps16
  go_upto_region 1 with fail
  refine at_world (fun W => Below w.heap.size w W ∧ W.heap.size = w.heap.size + 1 ∧ Bx6 W w.heap.size ⟨mp, ba, bl, bc⟩ o res t ∧ BxC W g (j * 7) x) ⟨(by repeat' (first | exact Below.refl _ _ | (refine Below.alloc ?_ ?_ _) | (refine Below.setCell ?_ ?_ _) | (refine Below.drew ?_) | (refine below_next ?_ ?_ (by assumption)) | omega | (simp; done) | (simp; omega))), by simp, ⟨by first | (simp; done) | (simp; omega), by simp [go_sem], by simp [go_sem], by simp [go_sem], by simp [go_sem], by simp [go_sem], by simp [go_sem]⟩, HE.out.below (by repeat' (first | exact Below.refl _ _ | (refine Below.alloc ?_ ?_ _) | (refine Below.setCell ?_ ?_ _) | (refine Below.drew ?_) | (refine below_next ?_ ?_ (by assumption)) | omega | (simp; done) | (simp; omega)))⟩ ?_
  rintro W0 ⟨hb0, hz0, B6, BE⟩
  clear m0 m1 m2 m3 m4 m5 m6
  have m0 := BE.c0
  have m1 := BE.c1
  have m2 := BE.c2
  have m3 := BE.c3
  have m4 := BE.c4
  have m5 := BE.c5
  have m6 := BE.c6
  go_upto_region 4 with fail
  refine at_world (fun W => TsI w W x ⟨mp, ba, bl, bc⟩ o res t) ⟨below_next hb0 hb0.size (by repeat' (first | exact Below.refl _ _ | (refine Below.alloc ?_ ?_ _) | (refine Below.setCell ?_ ?_ _) | (refine Below.drew ?_) | (refine below_next ?_ ?_ (by assumption)) | omega | (simp; done) | (simp; omega))), B6.below (by repeat' (first | exact Below.refl _ _ | (refine Below.alloc ?_ ?_ _) | (refine Below.setCell ?_ ?_ _) | (refine Below.drew ?_) | (refine below_next ?_ ?_ (by assumption)) | omega | (simp; done) | (simp; omega))), by rw [← hz0]; exact ⟨by first | (simp; done) | (simp; omega), by simp [go_sem], by simp [go_sem], by simp [go_sem], by simp [go_sem], by simp [go_sem], by simp [go_sem], by simp [go_sem]⟩⟩ ?_
  intro W1 N1
  (try simp only [hz0])
  clear m0 m1 m2 m3 m4 m5 m6 hb0 hz0 B6 BE
  have N := Lib.hid N1
  have n0 := (N1.bc).c0; have n1 := (N1.bc).box1; have n2 := (N1.bc).box2; have n3 := (N1.bc).box3; have n4 := (N1.bc).box4; have n5 := (N1.bc).box5; have n6 := (N1.bc).box6; have e0 := (N1.b6).c0; have e1 := (N1.b6).c1; have e2 := (N1.b6).c2; have e3 := (N1.b6).c3; have e4 := (N1.b6).c4; have e5 := (N1.b6).c5
  clear N1
  rw [HK.out] at n0
  rw [HLX.out.1] at n2
  rw [HLX.out.2] at n3
  go_upto_region 10 with (go_at_call 24; refine (HA _ N.out.hb).mono ?_; rintro e' w5 ⟨rfl, hb5⟩; have N := Lib.hid (N.out.below hb5); clear hb5 HA)
  refine at_world (fun W => TsI w W x ⟨mp, ba, bl, bc⟩ o res t ∧ Bx4 W w5.heap.size a) ⟨N.out.below (by repeat' (first | exact Below.refl _ _ | (refine Below.alloc ?_ ?_ _) | (refine Below.setCell ?_ ?_ _) | (refine Below.drew ?_) | (refine below_next ?_ ?_ (by assumption)) | omega | (simp; done) | (simp; omega))), ⟨by first | (simp; done) | (simp; omega), by simp [go_sem], by simp [go_sem], by simp [go_sem], by simp [go_sem], by simp [go_sem], by simp [go_sem], by simp [go_sem], by simp [go_sem]⟩⟩ ?_
  rintro W6 ⟨N6, A6⟩
  obtain ⟨D3, hD3⟩ : ∃ x, w5.heap.size = x := ⟨_, rfl⟩
  simp only [hD3] at A6 ⊢
  clear hD3 N n0 n1 n2 n3 n4 n5 n6 e0 e1 e2 e3 e4 e5
  have N := Lib.hid N6
  have AA := Lib.hid A6
  have n0 := (N6.bc).c0; have n1 := (N6.bc).box1; have n2 := (N6.bc).box2; have n3 := (N6.bc).box3; have n4 := (N6.bc).box4; have n5 := (N6.bc).box5; have n6 := (N6.bc).box6; have e0 := (N6.b6).c0; have e1 := (N6.b6).c1; have e2 := (N6.b6).c2; have e3 := (N6.b6).c3; have e4 := (N6.b6).c4; have e5 := (N6.b6).c5
  have x0 := (A6).c0; have x1 := (A6).c1; have x2 := (A6).c2; have x3 := (A6).c3; have xf0 := (A6).f0; have xf1 := (A6).f1; have xf2 := (A6).f2; have xf3 := (A6).f3
  clear N6 A6
  rw [HK.out] at n0
  rw [HLX.out.1] at n2
  rw [HLX.out.2] at n3
  rw [HZ.out] at x2
  go_upto_region 13 with (go_at_call 24; refine (HB _ N.out.hb).mono ?_; rintro e' w7 ⟨rfl, hb7⟩; have N := Lib.hid (N.out.below hb7); have AA := Lib.hid (AA.out.below hb7); clear hb7 HB)
  refine at_world (fun W => TsI w W x ⟨mp, ba, bl, bc⟩ o res t ∧ Bx4 W D3 a ∧ Bx4 W w7.heap.size b) ⟨N.out.below (by repeat' (first | exact Below.refl _ _ | (refine Below.alloc ?_ ?_ _) | (refine Below.setCell ?_ ?_ _) | (refine Below.drew ?_) | (refine below_next ?_ ?_ (by assumption)) | omega | (simp; done) | (simp; omega))), AA.out.below (by repeat' (first | exact Below.refl _ _ | (refine Below.alloc ?_ ?_ _) | (refine Below.setCell ?_ ?_ _) | (refine Below.drew ?_) | (refine below_next ?_ ?_ (by assumption)) | omega | (simp; done) | (simp; omega))), ⟨by first | (simp; done) | (simp; omega), by simp [go_sem], by simp [go_sem], by simp [go_sem], by simp [go_sem], by simp [go_sem], by simp [go_sem], by simp [go_sem], by simp [go_sem]⟩⟩ ?_
  rintro W8 ⟨N8, A8, B8⟩
  obtain ⟨D4, hD4⟩ : ∃ x, w7.heap.size = x := ⟨_, rfl⟩
  simp only [hD4] at B8 ⊢
  clear hD4 N AA n0 n1 n2 n3 n4 n5 n6 e0 e1 e2 e3 e4 e5 x0 xf0 x1 xf1 x2 xf2 x3 xf3
  have N := Lib.hid N8
  have n0 := (N8.bc).c0; have n1 := (N8.bc).box1; have n2 := (N8.bc).box2; have n3 := (N8.bc).box3; have n4 := (N8.bc).box4; have n5 := (N8.bc).box5; have n6 := (N8.bc).box6; have e0 := (N8.b6).c0; have e1 := (N8.b6).c1; have e2 := (N8.b6).c2; have e3 := (N8.b6).c3; have e4 := (N8.b6).c4; have e5 := (N8.b6).c5
  have x0 := (A8).c0; have x1 := (A8).c1; have x2 := (A8).c2; have x3 := (A8).c3; have xf0 := (A8).f0; have xf1 := (A8).f1; have xf2 := (A8).f2; have xf3 := (A8).f3
  have y0 := (B8).c0; have y1 := (B8).c1; have y2 := (B8).c2; have y3 := (B8).c3; have yf0 := (B8).f0; have yf1 := (B8).f1; have yf2 := (B8).f2; have yf3 := (B8).f3
  clear N8 A8 B8
  rw [HK.out] at n0
  go_upto_region 14 with fail
  have d0 := fun (x' : WIn (Below W8.heap.size W8)) => cell_later x'.h y2
  have d1 := fun (x' : WIn (Below W8.heap.size W8)) => cell_later x'.h y3
  refine region_in (Below W8.heap.size W8) (by kernel_rfl) (by kernel_rfl) (Below.refl _ _).drew (fun inst => ?_)
  iterate 7 (go_big_quiet_step (fail))
  refine wpQuiet_nil ?_
  intro wd hbd
  have hbz := below_next N.out.hb N.out.hb.size hbd
  go_wp2_with fail
  go_ret3
  exact ⟨rfl, hbz⟩
set_option maxRecDepth 100000 in
set_option maxHeartbeats 6400000 in
theorem ts_rel3 (x : Cv) (v o : NV) (res t : Int) (g len cc j : Nat) (w : World) (hj : j < len) (hE : BxC w g (j * 7) x) (hk : x.c.k = 1) (lx ly : Nat) (hlx : x.c.x.length = lx) (hly : x.c.y.length = ly) (hx3 : lx ≤ 300000) (hy3 : ly ≤ 300000) (a b : Gt) (HA : ∀ W, Below w.heap.size w W → Calls Try.prog 24 #[.slice x.ax lx x.cx, .int .i64 ((lx : Int) - 1), envA v o res t] W fun e' w' => e' = .returned (gtV a) ∧ Below W.heap.size W w') (HB : ∀ W, Below w.heap.size w W → Calls Try.prog 24 #[.slice x.ay ly x.cy, .int .i64 ((ly : Int) - 1), envA v o res t] W fun e' w' => e' = .returned (gtV b) ∧ Below W.heap.size W w') (hz : a.ub = 0) (hz2 : b.ub = 0) (T xx yy : Int) (q : Bool) (hT : mixT 8 a.t b.t = T) (hxx : wrapT T a.v = xx) (hyy : wrapT T b.v = yy) (hq : relI x.c.rel xx yy = q) :
    Calls Try.prog 16 #[.slice (some ⟨g, 0, none⟩) len cc, .int .i64 (j : Int), envA v o res t] w fun e' w' => e' = .returned (.tuple #[.bool q, .int .i64 0, .int .i64 0]) ∧ Below w.heap.size w w' := by
  have HK : Hid (x.c.k = 1) := Lib.hid hk
  clear hk
  have ex1 : IntKind.i64.wrap ((lx : Int) - 1) = (lx : Int) - 1 := IntWalk.i64_in _ (by omega)
  have ey1 : IntKind.i64.wrap ((ly : Int) - 1) = (ly : Int) - 1 := IntWalk.i64_in _ (by omega)
  have HLX := Lib.hid (And.intro hlx hly)
  clear hlx hly
  unfold envA gtV at HA HB
  have MC : ∀ W, Calls Try.prog 29 #[.int .i64 8, .int .i64 a.t, .int .i64 b.t] W fun e w' => e = .returned (.int .i64 T) ∧ W = w' := fun W => by have := mixed_c 8 a.t b.t W; rwa [hT] at this
  have LX : ∀ W, Calls Try.prog 31 #[.int .i64 T, .int .i64 a.v] W fun e w' => e = .returned (.int .i64 xx) ∧ W = w' := fun W => by have := wrap_c T a.v W; rwa [hxx] at this
  have LY : ∀ W, Calls Try.prog 31 #[.int .i64 T, .int .i64 b.v] W fun e w' => e = .returned (.int .i64 yy) ∧ W = w' := fun W => by have := wrap_c T b.v W; rwa [hyy] at this
  have LR : ∀ W, Calls Try.prog 30 #[.int .i64 x.c.rel, .int .i64 xx, .int .i64 yy] W fun e w' => e = .returned (.bool q) ∧ W = w' := fun W => by have := rel_c x.c.rel xx yy W; rwa [hq] at this
  obtain ⟨av, hav⟩ : ∃ z, a.v = z := ⟨_, rfl⟩
  obtain ⟨bv, hbv⟩ : ∃ z, b.v = z := ⟨_, rfl⟩
  have HV := Lib.hid (And.intro hav hbv)
  rw [hav] at LX
  rw [hbv] at LY
  have HZ := Lib.hid (And.intro hz hz2)
  clear hz hz2 hav hbv hxx hyy hq hT
  obtain ⟨mp, ba, bl, bc⟩ := v
  unfold envA
  simp only at HA HB
  have HE := Lib.hid hE
  have m0 := hE.c0
  have m1 := hE.c1
  have m2 := hE.c2
  have m3 := hE.c3
  have m4 := hE.c4
  have m5 := hE.c5
  have m6 := hE.c6
  have hj0 : (0 : Int) ≤ (j : Int) := by omega
  have hj1 : (j : Int) < (len : Int) := by omega
  have hg0 : g ≠ w.heap.size := by have := hE.lt; omega
  clear hE
  simp only
  go_enter Try.func16, Try.ntmps16
  go_upto_region 1 with fail
  refine at_world (fun W => Below w.heap.size w W ∧ W.heap.size = w.heap.size + 1 ∧ Bx6 W w.heap.size ⟨mp, ba, bl, bc⟩ o res t ∧ BxC W g (j * 7) x) ⟨(by repeat' (first | exact Below.refl _ _ | (refine Below.alloc ?_ ?_ _) | (refine Below.setCell ?_ ?_ _) | (refine Below.drew ?_) | (refine below_next ?_ ?_ (by assumption)) | omega | (simp; done) | (simp; omega))), by simp, ⟨by first | (simp; done) | (simp; omega), by simp [go_sem], by simp [go_sem], by simp [go_sem], by simp [go_sem], by simp [go_sem], by simp [go_sem]⟩, HE.out.below (by repeat' (first | exact Below.refl _ _ | (refine Below.alloc ?_ ?_ _) | (refine Below.setCell ?_ ?_ _) | (refine Below.drew ?_) | (refine below_next ?_ ?_ (by assumption)) | omega | (simp; done) | (simp; omega)))⟩ ?_
  rintro W0 ⟨hb0, hz0, B6, BE⟩
  clear m0 m1 m2 m3 m4 m5 m6
  have m0 := BE.c0
  have m1 := BE.c1
  have m2 := BE.c2
  have m3 := BE.c3
  have m4 := BE.c4
  have m5 := BE.c5
  have m6 := BE.c6
  go_upto_region 4 with fail
  refine at_world (fun W => TsI w W x ⟨mp, ba, bl, bc⟩ o res t) ⟨below_next hb0 hb0.size (by repeat' (first | exact Below.refl _ _ | (refine Below.alloc ?_ ?_ _) | (refine Below.setCell ?_ ?_ _) | (refine Below.drew ?_) | (refine below_next ?_ ?_ (by assumption)) | omega | (simp; done) | (simp; omega))), B6.below (by repeat' (first | exact Below.refl _ _ | (refine Below.alloc ?_ ?_ _) | (refine Below.setCell ?_ ?_ _) | (refine Below.drew ?_) | (refine below_next ?_ ?_ (by assumption)) | omega | (simp; done) | (simp; omega))), by rw [← hz0]; exact ⟨by first | (simp; done) | (simp; omega), by simp [go_sem], by simp [go_sem], by simp [go_sem], by simp [go_sem], by simp [go_sem], by simp [go_sem], by simp [go_sem]⟩⟩ ?_
  intro W1 N1
  (try simp only [hz0])
  clear m0 m1 m2 m3 m4 m5 m6 hb0 hz0 B6 BE
  have N := Lib.hid N1
  have n0 := (N1.bc).c0; have n1 := (N1.bc).box1; have n2 := (N1.bc).box2; have n3 := (N1.bc).box3; have n4 := (N1.bc).box4; have n5 := (N1.bc).box5; have n6 := (N1.bc).box6; have e0 := (N1.b6).c0; have e1 := (N1.b6).c1; have e2 := (N1.b6).c2; have e3 := (N1.b6).c3; have e4 := (N1.b6).c4; have e5 := (N1.b6).c5
  clear N1
  rw [HK.out] at n0
  rw [HLX.out.1] at n2
  rw [HLX.out.2] at n3
  go_upto_region 10 with (go_at_call 24; refine (HA _ N.out.hb).mono ?_; rintro e' w5 ⟨rfl, hb5⟩; have N := Lib.hid (N.out.below hb5); clear hb5 HA)
  refine at_world (fun W => TsI w W x ⟨mp, ba, bl, bc⟩ o res t ∧ Bx4 W w5.heap.size a) ⟨N.out.below (by repeat' (first | exact Below.refl _ _ | (refine Below.alloc ?_ ?_ _) | (refine Below.setCell ?_ ?_ _) | (refine Below.drew ?_) | (refine below_next ?_ ?_ (by assumption)) | omega | (simp; done) | (simp; omega))), ⟨by first | (simp; done) | (simp; omega), by simp [go_sem], by simp [go_sem], by simp [go_sem], by simp [go_sem], by simp [go_sem], by simp [go_sem], by simp [go_sem], by simp [go_sem]⟩⟩ ?_
  rintro W6 ⟨N6, A6⟩
  obtain ⟨D3, hD3⟩ : ∃ x, w5.heap.size = x := ⟨_, rfl⟩
  simp only [hD3] at A6 ⊢
  clear hD3 N n0 n1 n2 n3 n4 n5 n6 e0 e1 e2 e3 e4 e5
  have N := Lib.hid N6
  have AA := Lib.hid A6
  have n0 := (N6.bc).c0; have n1 := (N6.bc).box1; have n2 := (N6.bc).box2; have n3 := (N6.bc).box3; have n4 := (N6.bc).box4; have n5 := (N6.bc).box5; have n6 := (N6.bc).box6; have e0 := (N6.b6).c0; have e1 := (N6.b6).c1; have e2 := (N6.b6).c2; have e3 := (N6.b6).c3; have e4 := (N6.b6).c4; have e5 := (N6.b6).c5
  have x0 := (A6).c0; have x1 := (A6).c1; have x2 := (A6).c2; have x3 := (A6).c3; have xf0 := (A6).f0; have xf1 := (A6).f1; have xf2 := (A6).f2; have xf3 := (A6).f3
  clear N6 A6
  rw [HK.out] at n0
  rw [HLX.out.1] at n2
  rw [HLX.out.2] at n3
  rw [HZ.out.1] at x2
  go_upto_region 13 with (go_at_call 24; refine (HB _ N.out.hb).mono ?_; rintro e' w7 ⟨rfl, hb7⟩; have N := Lib.hid (N.out.below hb7); have AA := Lib.hid (AA.out.below hb7); clear hb7 HB)
  refine at_world (fun W => TsI w W x ⟨mp, ba, bl, bc⟩ o res t ∧ Bx4 W D3 a ∧ Bx4 W w7.heap.size b) ⟨N.out.below (by repeat' (first | exact Below.refl _ _ | (refine Below.alloc ?_ ?_ _) | (refine Below.setCell ?_ ?_ _) | (refine Below.drew ?_) | (refine below_next ?_ ?_ (by assumption)) | omega | (simp; done) | (simp; omega))), AA.out.below (by repeat' (first | exact Below.refl _ _ | (refine Below.alloc ?_ ?_ _) | (refine Below.setCell ?_ ?_ _) | (refine Below.drew ?_) | (refine below_next ?_ ?_ (by assumption)) | omega | (simp; done) | (simp; omega))), ⟨by first | (simp; done) | (simp; omega), by simp [go_sem], by simp [go_sem], by simp [go_sem], by simp [go_sem], by simp [go_sem], by simp [go_sem], by simp [go_sem], by simp [go_sem]⟩⟩ ?_
  rintro W8 ⟨N8, A8, B8⟩
  obtain ⟨D4, hD4⟩ : ∃ x, w7.heap.size = x := ⟨_, rfl⟩
  simp only [hD4] at B8 ⊢
  clear hD4 N AA n0 n1 n2 n3 n4 n5 n6 e0 e1 e2 e3 e4 e5 x0 xf0 x1 xf1 x2 xf2 x3 xf3
  have N := Lib.hid N8
  have n0 := (N8.bc).c0; have n1 := (N8.bc).box1; have n2 := (N8.bc).box2; have n3 := (N8.bc).box3; have n4 := (N8.bc).box4; have n5 := (N8.bc).box5; have n6 := (N8.bc).box6; have e0 := (N8.b6).c0; have e1 := (N8.b6).c1; have e2 := (N8.b6).c2; have e3 := (N8.b6).c3; have e4 := (N8.b6).c4; have e5 := (N8.b6).c5
  have x0 := (A8).c0; have x1 := (A8).c1; have x2 := (A8).c2; have x3 := (A8).c3; have xf0 := (A8).f0; have xf1 := (A8).f1; have xf2 := (A8).f2; have xf3 := (A8).f3
  have y0 := (B8).c0; have y1 := (B8).c1; have y2 := (B8).c2; have y3 := (B8).c3; have yf0 := (B8).f0; have yf1 := (B8).f1; have yf2 := (B8).f2; have yf3 := (B8).f3
  clear N8 A8 B8
  rw [HK.out] at n0
  rw [HZ.out.1] at x2
  rw [HZ.out.2] at y2
  rw [HV.out.1] at x0
  rw [HV.out.2] at y0
  go_upto_region 16 with (go_at_call 29; refine (MC _).mono ?_; rintro e' w' ⟨rfl, rfl⟩; clear MC)
  have d0 := fun (x' : WIn (Below W8.heap.size W8)) => cell_later x'.h n1
  have d1 := fun (x' : WIn (Below W8.heap.size W8)) => cell_later x'.h x0
  have d2 := fun (x' : WIn (Below W8.heap.size W8)) => cell_later x'.h y0
  refine region_in (Below W8.heap.size W8) (by kernel_rfl) (by kernel_rfl) (Below.refl _ _).drew (fun inst => ?_)
  iterate 14 (go_big_quiet_step (first | (go_at_call 31; with_reducible exact call_same _ (LX _)) | (go_at_call 31; with_reducible exact call_same _ (LY _)) | (go_at_call 30; exact call_same _ (LR _))))
  refine wpQuiet_nil ?_
  intro wd hbd
  have hbz := below_next N.out.hb N.out.hb.size hbd
  go_wp2_with fail
  go_ret3
  exact ⟨rfl, hbz⟩
set_option maxRecDepth 100000 in
set_option maxHeartbeats 6400000 in
theorem ts_not (x : Cv) (v o : NV) (res t : Int) (g len cc j : Nat) (w : World) (hj : j < len) (hE : BxC w g (j * 7) x) (hk : x.c.k = 2) (qb : Bool) (qu qa : Int) (HA : ∀ W, Below w.heap.size w W → Calls Try.prog 16 #[.slice (some ⟨g, 0, none⟩) len cc, .int .i64 x.c.a, envA v o res t] W fun e' w' => e' = .returned (.tuple #[.bool qb, .int .i64 qu, .int .i64 qa]) ∧ Below W.heap.size W w')  :
    Calls Try.prog 16 #[.slice (some ⟨g, 0, none⟩) len cc, .int .i64 (j : Int), envA v o res t] w fun e' w' => e' = .returned (.tuple #[.bool (!qb && decide (qu = 0)), .int .i64 qu, .int .i64 qa]) ∧ Below w.heap.size w w' := by
  have HK : Hid (x.c.k = 2) := Lib.hid hk
  clear hk
  unfold envA at HA
  obtain ⟨z, hz⟩ : ∃ z, (!qb && decide (qu = 0)) = z := ⟨_, rfl⟩
  rw [hz]
  have HC : (qb = true ∧ z = false) ∨ (qb = false ∧ qu = 0 ∧ z = true) ∨ (qb = false ∧ (qu == 0) = false ∧ z = false) := by
    cases qb with
    | true => exact .inl ⟨rfl, by rw [← hz]; rfl⟩
    | false =>
      by_cases h : qu = 0
      · exact .inr (.inl ⟨rfl, h, by rw [← hz, h]; rfl⟩)
      · exact .inr (.inr ⟨rfl, by rw [beq_eq_false_iff_ne]; exact h, by rw [← hz, decide_eq_false h]; rfl⟩)
  clear hz
  rcases HC with ⟨rfl, rfl⟩ | ⟨rfl, rfl, rfl⟩ | ⟨rfl, u0, rfl⟩
  · obtain ⟨mp, ba, bl, bc⟩ := v
    unfold envA
    simp only at HA
    have HE := Lib.hid hE
    have m0 := hE.c0
    have m1 := hE.c1
    have m2 := hE.c2
    have m3 := hE.c3
    have m4 := hE.c4
    have m5 := hE.c5
    have m6 := hE.c6
    have hj0 : (0 : Int) ≤ (j : Int) := by omega
    have hj1 : (j : Int) < (len : Int) := by omega
    have hg0 : g ≠ w.heap.size := by have := hE.lt; omega
    clear hE
    simp only
    go_enter Try.func16, Try.ntmps16
    go_upto_region 1 with fail
    refine at_world (fun W => Below w.heap.size w W ∧ W.heap.size = w.heap.size + 1 ∧ Bx6 W w.heap.size ⟨mp, ba, bl, bc⟩ o res t ∧ BxC W g (j * 7) x) ⟨(by repeat' (first | exact Below.refl _ _ | (refine Below.alloc ?_ ?_ _) | (refine Below.setCell ?_ ?_ _) | (refine Below.drew ?_) | (refine below_next ?_ ?_ (by assumption)) | omega | (simp; done) | (simp; omega))), by simp, ⟨by first | (simp; done) | (simp; omega), by simp [go_sem], by simp [go_sem], by simp [go_sem], by simp [go_sem], by simp [go_sem], by simp [go_sem]⟩, HE.out.below (by repeat' (first | exact Below.refl _ _ | (refine Below.alloc ?_ ?_ _) | (refine Below.setCell ?_ ?_ _) | (refine Below.drew ?_) | (refine below_next ?_ ?_ (by assumption)) | omega | (simp; done) | (simp; omega)))⟩ ?_
    rintro W0 ⟨hb0, hz0, B6, BE⟩
    clear m0 m1 m2 m3 m4 m5 m6
    have m0 := BE.c0
    have m1 := BE.c1
    have m2 := BE.c2
    have m3 := BE.c3
    have m4 := BE.c4
    have m5 := BE.c5
    have m6 := BE.c6
    go_upto_region 4 with fail
    refine at_world (fun W => TsI w W x ⟨mp, ba, bl, bc⟩ o res t) ⟨below_next hb0 hb0.size (by repeat' (first | exact Below.refl _ _ | (refine Below.alloc ?_ ?_ _) | (refine Below.setCell ?_ ?_ _) | (refine Below.drew ?_) | (refine below_next ?_ ?_ (by assumption)) | omega | (simp; done) | (simp; omega))), B6.below (by repeat' (first | exact Below.refl _ _ | (refine Below.alloc ?_ ?_ _) | (refine Below.setCell ?_ ?_ _) | (refine Below.drew ?_) | (refine below_next ?_ ?_ (by assumption)) | omega | (simp; done) | (simp; omega))), by rw [← hz0]; exact ⟨by first | (simp; done) | (simp; omega), by simp [go_sem], by simp [go_sem], by simp [go_sem], by simp [go_sem], by simp [go_sem], by simp [go_sem], by simp [go_sem]⟩⟩ ?_
    intro W1 N1
    (try simp only [hz0])
    clear m0 m1 m2 m3 m4 m5 m6 hb0 hz0 B6 BE
    have N := Lib.hid N1
    have n0 := (N1.bc).c0; have n1 := (N1.bc).box1; have n2 := (N1.bc).box2; have n3 := (N1.bc).box3; have n4 := (N1.bc).box4; have n5 := (N1.bc).box5; have n6 := (N1.bc).box6; have e0 := (N1.b6).c0; have e1 := (N1.b6).c1; have e2 := (N1.b6).c2; have e3 := (N1.b6).c3; have e4 := (N1.b6).c4; have e5 := (N1.b6).c5
    clear N1
    rw [HK.out] at n0
    go_wp2_with (go_at_call 16; refine (HA _ N.out.hb).mono ?_; rintro e' w5 ⟨rfl, hb5⟩; have N := Lib.hid (N.out.below hb5); have n0 := (N.out.bc).c0; have n1 := (N.out.bc).box1; have n2 := (N.out.bc).box2; have n3 := (N.out.bc).box3; have n4 := (N.out.bc).box4; have n5 := (N.out.bc).box5; have n6 := (N.out.bc).box6; have e0 := (N.out.b6).c0; have e1 := (N.out.b6).c1; have e2 := (N.out.b6).c2; have e3 := (N.out.b6).c3; have e4 := (N.out.b6).c4; have e5 := (N.out.b6).c5; rw [HK.out] at n0; clear hb5 HA)
    go_ret3
    exact ⟨rfl, N.out.hb⟩
  · obtain ⟨mp, ba, bl, bc⟩ := v
    unfold envA
    simp only at HA
    have HE := Lib.hid hE
    have m0 := hE.c0
    have m1 := hE.c1
    have m2 := hE.c2
    have m3 := hE.c3
    have m4 := hE.c4
    have m5 := hE.c5
    have m6 := hE.c6
    have hj0 : (0 : Int) ≤ (j : Int) := by omega
    have hj1 : (j : Int) < (len : Int) := by omega
    have hg0 : g ≠ w.heap.size := by have := hE.lt; omega
    clear hE
    simp only
    go_enter Try.func16, Try.ntmps16
    go_upto_region 1 with fail
    refine at_world (fun W => Below w.heap.size w W ∧ W.heap.size = w.heap.size + 1 ∧ Bx6 W w.heap.size ⟨mp, ba, bl, bc⟩ o res t ∧ BxC W g (j * 7) x) ⟨(by repeat' (first | exact Below.refl _ _ | (refine Below.alloc ?_ ?_ _) | (refine Below.setCell ?_ ?_ _) | (refine Below.drew ?_) | (refine below_next ?_ ?_ (by assumption)) | omega | (simp; done) | (simp; omega))), by simp, ⟨by first | (simp; done) | (simp; omega), by simp [go_sem], by simp [go_sem], by simp [go_sem], by simp [go_sem], by simp [go_sem], by simp [go_sem]⟩, HE.out.below (by repeat' (first | exact Below.refl _ _ | (refine Below.alloc ?_ ?_ _) | (refine Below.setCell ?_ ?_ _) | (refine Below.drew ?_) | (refine below_next ?_ ?_ (by assumption)) | omega | (simp; done) | (simp; omega)))⟩ ?_
    rintro W0 ⟨hb0, hz0, B6, BE⟩
    clear m0 m1 m2 m3 m4 m5 m6
    have m0 := BE.c0
    have m1 := BE.c1
    have m2 := BE.c2
    have m3 := BE.c3
    have m4 := BE.c4
    have m5 := BE.c5
    have m6 := BE.c6
    go_upto_region 4 with fail
    refine at_world (fun W => TsI w W x ⟨mp, ba, bl, bc⟩ o res t) ⟨below_next hb0 hb0.size (by repeat' (first | exact Below.refl _ _ | (refine Below.alloc ?_ ?_ _) | (refine Below.setCell ?_ ?_ _) | (refine Below.drew ?_) | (refine below_next ?_ ?_ (by assumption)) | omega | (simp; done) | (simp; omega))), B6.below (by repeat' (first | exact Below.refl _ _ | (refine Below.alloc ?_ ?_ _) | (refine Below.setCell ?_ ?_ _) | (refine Below.drew ?_) | (refine below_next ?_ ?_ (by assumption)) | omega | (simp; done) | (simp; omega))), by rw [← hz0]; exact ⟨by first | (simp; done) | (simp; omega), by simp [go_sem], by simp [go_sem], by simp [go_sem], by simp [go_sem], by simp [go_sem], by simp [go_sem], by simp [go_sem]⟩⟩ ?_
    intro W1 N1
    (try simp only [hz0])
    clear m0 m1 m2 m3 m4 m5 m6 hb0 hz0 B6 BE
    have N := Lib.hid N1
    have n0 := (N1.bc).c0; have n1 := (N1.bc).box1; have n2 := (N1.bc).box2; have n3 := (N1.bc).box3; have n4 := (N1.bc).box4; have n5 := (N1.bc).box5; have n6 := (N1.bc).box6; have e0 := (N1.b6).c0; have e1 := (N1.b6).c1; have e2 := (N1.b6).c2; have e3 := (N1.b6).c3; have e4 := (N1.b6).c4; have e5 := (N1.b6).c5
    clear N1
    rw [HK.out] at n0
    go_wp2_with (go_at_call 16; refine (HA _ N.out.hb).mono ?_; rintro e' w5 ⟨rfl, hb5⟩; have N := Lib.hid (N.out.below hb5); have n0 := (N.out.bc).c0; have n1 := (N.out.bc).box1; have n2 := (N.out.bc).box2; have n3 := (N.out.bc).box3; have n4 := (N.out.bc).box4; have n5 := (N.out.bc).box5; have n6 := (N.out.bc).box6; have e0 := (N.out.b6).c0; have e1 := (N.out.b6).c1; have e2 := (N.out.b6).c2; have e3 := (N.out.b6).c3; have e4 := (N.out.b6).c4; have e5 := (N.out.b6).c5; rw [HK.out] at n0; clear hb5 HA)
    go_ret3
    exact ⟨rfl, N.out.hb⟩
  · obtain ⟨mp, ba, bl, bc⟩ := v
    unfold envA
    simp only at HA
    have HE := Lib.hid hE
    have m0 := hE.c0
    have m1 := hE.c1
    have m2 := hE.c2
    have m3 := hE.c3
    have m4 := hE.c4
    have m5 := hE.c5
    have m6 := hE.c6
    have hj0 : (0 : Int) ≤ (j : Int) := by omega
    have hj1 : (j : Int) < (len : Int) := by omega
    have hg0 : g ≠ w.heap.size := by have := hE.lt; omega
    clear hE
    simp only
    go_enter Try.func16, Try.ntmps16
    go_upto_region 1 with fail
    refine at_world (fun W => Below w.heap.size w W ∧ W.heap.size = w.heap.size + 1 ∧ Bx6 W w.heap.size ⟨mp, ba, bl, bc⟩ o res t ∧ BxC W g (j * 7) x) ⟨(by repeat' (first | exact Below.refl _ _ | (refine Below.alloc ?_ ?_ _) | (refine Below.setCell ?_ ?_ _) | (refine Below.drew ?_) | (refine below_next ?_ ?_ (by assumption)) | omega | (simp; done) | (simp; omega))), by simp, ⟨by first | (simp; done) | (simp; omega), by simp [go_sem], by simp [go_sem], by simp [go_sem], by simp [go_sem], by simp [go_sem], by simp [go_sem]⟩, HE.out.below (by repeat' (first | exact Below.refl _ _ | (refine Below.alloc ?_ ?_ _) | (refine Below.setCell ?_ ?_ _) | (refine Below.drew ?_) | (refine below_next ?_ ?_ (by assumption)) | omega | (simp; done) | (simp; omega)))⟩ ?_
    rintro W0 ⟨hb0, hz0, B6, BE⟩
    clear m0 m1 m2 m3 m4 m5 m6
    have m0 := BE.c0
    have m1 := BE.c1
    have m2 := BE.c2
    have m3 := BE.c3
    have m4 := BE.c4
    have m5 := BE.c5
    have m6 := BE.c6
    go_upto_region 4 with fail
    refine at_world (fun W => TsI w W x ⟨mp, ba, bl, bc⟩ o res t) ⟨below_next hb0 hb0.size (by repeat' (first | exact Below.refl _ _ | (refine Below.alloc ?_ ?_ _) | (refine Below.setCell ?_ ?_ _) | (refine Below.drew ?_) | (refine below_next ?_ ?_ (by assumption)) | omega | (simp; done) | (simp; omega))), B6.below (by repeat' (first | exact Below.refl _ _ | (refine Below.alloc ?_ ?_ _) | (refine Below.setCell ?_ ?_ _) | (refine Below.drew ?_) | (refine below_next ?_ ?_ (by assumption)) | omega | (simp; done) | (simp; omega))), by rw [← hz0]; exact ⟨by first | (simp; done) | (simp; omega), by simp [go_sem], by simp [go_sem], by simp [go_sem], by simp [go_sem], by simp [go_sem], by simp [go_sem], by simp [go_sem]⟩⟩ ?_
    intro W1 N1
    (try simp only [hz0])
    clear m0 m1 m2 m3 m4 m5 m6 hb0 hz0 B6 BE
    have N := Lib.hid N1
    have n0 := (N1.bc).c0; have n1 := (N1.bc).box1; have n2 := (N1.bc).box2; have n3 := (N1.bc).box3; have n4 := (N1.bc).box4; have n5 := (N1.bc).box5; have n6 := (N1.bc).box6; have e0 := (N1.b6).c0; have e1 := (N1.b6).c1; have e2 := (N1.b6).c2; have e3 := (N1.b6).c3; have e4 := (N1.b6).c4; have e5 := (N1.b6).c5
    clear N1
    rw [HK.out] at n0
    go_wp2_with (go_at_call 16; refine (HA _ N.out.hb).mono ?_; rintro e' w5 ⟨rfl, hb5⟩; have N := Lib.hid (N.out.below hb5); have n0 := (N.out.bc).c0; have n1 := (N.out.bc).box1; have n2 := (N.out.bc).box2; have n3 := (N.out.bc).box3; have n4 := (N.out.bc).box4; have n5 := (N.out.bc).box5; have n6 := (N.out.bc).box6; have e0 := (N.out.b6).c0; have e1 := (N.out.b6).c1; have e2 := (N.out.b6).c2; have e3 := (N.out.b6).c3; have e4 := (N.out.b6).c4; have e5 := (N.out.b6).c5; rw [HK.out] at n0; clear hb5 HA)
    go_ret3
    exact ⟨rfl, N.out.hb⟩
set_option maxRecDepth 100000 in
set_option maxHeartbeats 6400000 in
theorem ts_and1 (x : Cv) (v o : NV) (res t : Int) (g len cc j : Nat) (w : World) (hj : j < len) (hE : BxC w g (j * 7) x) (hk : x.c.k = 3) (qu qa : Int) (HA : ∀ W, Below w.heap.size w W → Calls Try.prog 16 #[.slice (some ⟨g, 0, none⟩) len cc, .int .i64 x.c.a, envA v o res t] W fun e' w' => e' = .returned (.tuple #[.bool false, .int .i64 qu, .int .i64 qa]) ∧ Below W.heap.size W w')  :
    Calls Try.prog 16 #[.slice (some ⟨g, 0, none⟩) len cc, .int .i64 (j : Int), envA v o res t] w fun e' w' => e' = .returned (.tuple #[.bool false, .int .i64 qu, .int .i64 qa]) ∧ Below w.heap.size w w' := by
  have HK : Hid (x.c.k = 3) := Lib.hid hk
  clear hk
  unfold envA at HA
  have hcu : qu = 0 ∨ ((qu == 0) = false ∧ (qu != 0) = true) := by
    by_cases h : qu = 0
    · exact .inl h
    · have h2 : (qu == 0) = false := by rw [beq_eq_false_iff_ne]; exact h
      exact .inr ⟨h2, by rw [bne, h2]; rfl⟩
  rcases hcu with rfl | ⟨u0, u1⟩
  · obtain ⟨mp, ba, bl, bc⟩ := v
    unfold envA
    simp only at HA
    have HE := Lib.hid hE
    have m0 := hE.c0
    have m1 := hE.c1
    have m2 := hE.c2
    have m3 := hE.c3
    have m4 := hE.c4
    have m5 := hE.c5
    have m6 := hE.c6
    have hj0 : (0 : Int) ≤ (j : Int) := by omega
    have hj1 : (j : Int) < (len : Int) := by omega
    have hg0 : g ≠ w.heap.size := by have := hE.lt; omega
    clear hE
    simp only
    go_enter Try.func16, Try.ntmps16
    go_upto_region 1 with fail
    refine at_world (fun W => Below w.heap.size w W ∧ W.heap.size = w.heap.size + 1 ∧ Bx6 W w.heap.size ⟨mp, ba, bl, bc⟩ o res t ∧ BxC W g (j * 7) x) ⟨(by repeat' (first | exact Below.refl _ _ | (refine Below.alloc ?_ ?_ _) | (refine Below.setCell ?_ ?_ _) | (refine Below.drew ?_) | (refine below_next ?_ ?_ (by assumption)) | omega | (simp; done) | (simp; omega))), by simp, ⟨by first | (simp; done) | (simp; omega), by simp [go_sem], by simp [go_sem], by simp [go_sem], by simp [go_sem], by simp [go_sem], by simp [go_sem]⟩, HE.out.below (by repeat' (first | exact Below.refl _ _ | (refine Below.alloc ?_ ?_ _) | (refine Below.setCell ?_ ?_ _) | (refine Below.drew ?_) | (refine below_next ?_ ?_ (by assumption)) | omega | (simp; done) | (simp; omega)))⟩ ?_
    rintro W0 ⟨hb0, hz0, B6, BE⟩
    clear m0 m1 m2 m3 m4 m5 m6
    have m0 := BE.c0
    have m1 := BE.c1
    have m2 := BE.c2
    have m3 := BE.c3
    have m4 := BE.c4
    have m5 := BE.c5
    have m6 := BE.c6
    go_upto_region 4 with fail
    refine at_world (fun W => TsI w W x ⟨mp, ba, bl, bc⟩ o res t) ⟨below_next hb0 hb0.size (by repeat' (first | exact Below.refl _ _ | (refine Below.alloc ?_ ?_ _) | (refine Below.setCell ?_ ?_ _) | (refine Below.drew ?_) | (refine below_next ?_ ?_ (by assumption)) | omega | (simp; done) | (simp; omega))), B6.below (by repeat' (first | exact Below.refl _ _ | (refine Below.alloc ?_ ?_ _) | (refine Below.setCell ?_ ?_ _) | (refine Below.drew ?_) | (refine below_next ?_ ?_ (by assumption)) | omega | (simp; done) | (simp; omega))), by rw [← hz0]; exact ⟨by first | (simp; done) | (simp; omega), by simp [go_sem], by simp [go_sem], by simp [go_sem], by simp [go_sem], by simp [go_sem], by simp [go_sem], by simp [go_sem]⟩⟩ ?_
    intro W1 N1
    (try simp only [hz0])
    clear m0 m1 m2 m3 m4 m5 m6 hb0 hz0 B6 BE
    have N := Lib.hid N1
    have n0 := (N1.bc).c0; have n1 := (N1.bc).box1; have n2 := (N1.bc).box2; have n3 := (N1.bc).box3; have n4 := (N1.bc).box4; have n5 := (N1.bc).box5; have n6 := (N1.bc).box6; have e0 := (N1.b6).c0; have e1 := (N1.b6).c1; have e2 := (N1.b6).c2; have e3 := (N1.b6).c3; have e4 := (N1.b6).c4; have e5 := (N1.b6).c5
    clear N1
    rw [HK.out] at n0
    go_wp2_with (go_at_call 16; refine (HA _ N.out.hb).mono ?_; rintro e' w5 ⟨rfl, hb5⟩; have N := Lib.hid (N.out.below hb5); have n0 := (N.out.bc).c0; have n1 := (N.out.bc).box1; have n2 := (N.out.bc).box2; have n3 := (N.out.bc).box3; have n4 := (N.out.bc).box4; have n5 := (N.out.bc).box5; have n6 := (N.out.bc).box6; have e0 := (N.out.b6).c0; have e1 := (N.out.b6).c1; have e2 := (N.out.b6).c2; have e3 := (N.out.b6).c3; have e4 := (N.out.b6).c4; have e5 := (N.out.b6).c5; rw [HK.out] at n0; clear hb5 HA)
    go_ret3
    exact ⟨rfl, N.out.hb⟩
  · obtain ⟨mp, ba, bl, bc⟩ := v
    unfold envA
    simp only at HA
    have HE := Lib.hid hE
    have m0 := hE.c0
    have m1 := hE.c1
    have m2 := hE.c2
    have m3 := hE.c3
    have m4 := hE.c4
    have m5 := hE.c5
    have m6 := hE.c6
    have hj0 : (0 : Int) ≤ (j : Int) := by omega
    have hj1 : (j : Int) < (len : Int) := by omega
    have hg0 : g ≠ w.heap.size := by have := hE.lt; omega
    clear hE
    simp only
    go_enter Try.func16, Try.ntmps16
    go_upto_region 1 with fail
    refine at_world (fun W => Below w.heap.size w W ∧ W.heap.size = w.heap.size + 1 ∧ Bx6 W w.heap.size ⟨mp, ba, bl, bc⟩ o res t ∧ BxC W g (j * 7) x) ⟨(by repeat' (first | exact Below.refl _ _ | (refine Below.alloc ?_ ?_ _) | (refine Below.setCell ?_ ?_ _) | (refine Below.drew ?_) | (refine below_next ?_ ?_ (by assumption)) | omega | (simp; done) | (simp; omega))), by simp, ⟨by first | (simp; done) | (simp; omega), by simp [go_sem], by simp [go_sem], by simp [go_sem], by simp [go_sem], by simp [go_sem], by simp [go_sem]⟩, HE.out.below (by repeat' (first | exact Below.refl _ _ | (refine Below.alloc ?_ ?_ _) | (refine Below.setCell ?_ ?_ _) | (refine Below.drew ?_) | (refine below_next ?_ ?_ (by assumption)) | omega | (simp; done) | (simp; omega)))⟩ ?_
    rintro W0 ⟨hb0, hz0, B6, BE⟩
    clear m0 m1 m2 m3 m4 m5 m6
    have m0 := BE.c0
    have m1 := BE.c1
    have m2 := BE.c2
    have m3 := BE.c3
    have m4 := BE.c4
    have m5 := BE.c5
    have m6 := BE.c6
    go_upto_region 4 with fail
    refine at_world (fun W => TsI w W x ⟨mp, ba, bl, bc⟩ o res t) ⟨below_next hb0 hb0.size (by repeat' (first | exact Below.refl _ _ | (refine Below.alloc ?_ ?_ _) | (refine Below.setCell ?_ ?_ _) | (refine Below.drew ?_) | (refine below_next ?_ ?_ (by assumption)) | omega | (simp; done) | (simp; omega))), B6.below (by repeat' (first | exact Below.refl _ _ | (refine Below.alloc ?_ ?_ _) | (refine Below.setCell ?_ ?_ _) | (refine Below.drew ?_) | (refine below_next ?_ ?_ (by assumption)) | omega | (simp; done) | (simp; omega))), by rw [← hz0]; exact ⟨by first | (simp; done) | (simp; omega), by simp [go_sem], by simp [go_sem], by simp [go_sem], by simp [go_sem], by simp [go_sem], by simp [go_sem], by simp [go_sem]⟩⟩ ?_
    intro W1 N1
    (try simp only [hz0])
    clear m0 m1 m2 m3 m4 m5 m6 hb0 hz0 B6 BE
    have N := Lib.hid N1
    have n0 := (N1.bc).c0; have n1 := (N1.bc).box1; have n2 := (N1.bc).box2; have n3 := (N1.bc).box3; have n4 := (N1.bc).box4; have n5 := (N1.bc).box5; have n6 := (N1.bc).box6; have e0 := (N1.b6).c0; have e1 := (N1.b6).c1; have e2 := (N1.b6).c2; have e3 := (N1.b6).c3; have e4 := (N1.b6).c4; have e5 := (N1.b6).c5
    clear N1
    rw [HK.out] at n0
    go_wp2_with (go_at_call 16; refine (HA _ N.out.hb).mono ?_; rintro e' w5 ⟨rfl, hb5⟩; have N := Lib.hid (N.out.below hb5); have n0 := (N.out.bc).c0; have n1 := (N.out.bc).box1; have n2 := (N.out.bc).box2; have n3 := (N.out.bc).box3; have n4 := (N.out.bc).box4; have n5 := (N.out.bc).box5; have n6 := (N.out.bc).box6; have e0 := (N.out.b6).c0; have e1 := (N.out.b6).c1; have e2 := (N.out.b6).c2; have e3 := (N.out.b6).c3; have e4 := (N.out.b6).c4; have e5 := (N.out.b6).c5; rw [HK.out] at n0; clear hb5 HA)
    go_ret3
    exact ⟨rfl, N.out.hb⟩
set_option maxRecDepth 100000 in
set_option maxHeartbeats 6400000 in
theorem ts_and2 (x : Cv) (v o : NV) (res t : Int) (g len cc j : Nat) (w : World) (hj : j < len) (hE : BxC w g (j * 7) x) (hk : x.c.k = 3) (qa pu pa : Int) (pb : Bool) (HA : ∀ W, Below w.heap.size w W → Calls Try.prog 16 #[.slice (some ⟨g, 0, none⟩) len cc, .int .i64 x.c.a, envA v o res t] W fun e' w' => e' = .returned (.tuple #[.bool true, .int .i64 0, .int .i64 qa]) ∧ Below W.heap.size W w') (HB : ∀ W, Below w.heap.size w W → Calls Try.prog 16 #[.slice (some ⟨g, 0, none⟩) len cc, .int .i64 x.c.b, envA v o res t] W fun e' w' => e' = .returned (.tuple #[.bool pb, .int .i64 pu, .int .i64 pa]) ∧ Below W.heap.size W w')  :
    Calls Try.prog 16 #[.slice (some ⟨g, 0, none⟩) len cc, .int .i64 (j : Int), envA v o res t] w fun e' w' => e' = .returned (.tuple #[.bool pb, .int .i64 pu, .int .i64 pa]) ∧ Below w.heap.size w w' := by
  have HK : Hid (x.c.k = 3) := Lib.hid hk
  clear hk
  unfold envA at HA HB
  obtain ⟨mp, ba, bl, bc⟩ := v
  unfold envA
  simp only at HA HB
  have HE := Lib.hid hE
  have m0 := hE.c0
  have m1 := hE.c1
  have m2 := hE.c2
  have m3 := hE.c3
  have m4 := hE.c4
  have m5 := hE.c5
  have m6 := hE.c6
  have hj0 : (0 : Int) ≤ (j : Int) := by omega
  have hj1 : (j : Int) < (len : Int) := by omega
  have hg0 : g ≠ w.heap.size := by have := hE.lt; omega
  clear hE
  simp only
  go_enter Try.func16, Try.ntmps16
  go_upto_region 1 with fail
  refine at_world (fun W => Below w.heap.size w W ∧ W.heap.size = w.heap.size + 1 ∧ Bx6 W w.heap.size ⟨mp, ba, bl, bc⟩ o res t ∧ BxC W g (j * 7) x) ⟨(by repeat' (first | exact Below.refl _ _ | (refine Below.alloc ?_ ?_ _) | (refine Below.setCell ?_ ?_ _) | (refine Below.drew ?_) | (refine below_next ?_ ?_ (by assumption)) | omega | (simp; done) | (simp; omega))), by simp, ⟨by first | (simp; done) | (simp; omega), by simp [go_sem], by simp [go_sem], by simp [go_sem], by simp [go_sem], by simp [go_sem], by simp [go_sem]⟩, HE.out.below (by repeat' (first | exact Below.refl _ _ | (refine Below.alloc ?_ ?_ _) | (refine Below.setCell ?_ ?_ _) | (refine Below.drew ?_) | (refine below_next ?_ ?_ (by assumption)) | omega | (simp; done) | (simp; omega)))⟩ ?_
  rintro W0 ⟨hb0, hz0, B6, BE⟩
  clear m0 m1 m2 m3 m4 m5 m6
  have m0 := BE.c0
  have m1 := BE.c1
  have m2 := BE.c2
  have m3 := BE.c3
  have m4 := BE.c4
  have m5 := BE.c5
  have m6 := BE.c6
  go_upto_region 4 with fail
  refine at_world (fun W => TsI w W x ⟨mp, ba, bl, bc⟩ o res t) ⟨below_next hb0 hb0.size (by repeat' (first | exact Below.refl _ _ | (refine Below.alloc ?_ ?_ _) | (refine Below.setCell ?_ ?_ _) | (refine Below.drew ?_) | (refine below_next ?_ ?_ (by assumption)) | omega | (simp; done) | (simp; omega))), B6.below (by repeat' (first | exact Below.refl _ _ | (refine Below.alloc ?_ ?_ _) | (refine Below.setCell ?_ ?_ _) | (refine Below.drew ?_) | (refine below_next ?_ ?_ (by assumption)) | omega | (simp; done) | (simp; omega))), by rw [← hz0]; exact ⟨by first | (simp; done) | (simp; omega), by simp [go_sem], by simp [go_sem], by simp [go_sem], by simp [go_sem], by simp [go_sem], by simp [go_sem], by simp [go_sem]⟩⟩ ?_
  intro W1 N1
  (try simp only [hz0])
  clear m0 m1 m2 m3 m4 m5 m6 hb0 hz0 B6 BE
  have N := Lib.hid N1
  have n0 := (N1.bc).c0; have n1 := (N1.bc).box1; have n2 := (N1.bc).box2; have n3 := (N1.bc).box3; have n4 := (N1.bc).box4; have n5 := (N1.bc).box5; have n6 := (N1.bc).box6; have e0 := (N1.b6).c0; have e1 := (N1.b6).c1; have e2 := (N1.b6).c2; have e3 := (N1.b6).c3; have e4 := (N1.b6).c4; have e5 := (N1.b6).c5
  clear N1
  rw [HK.out] at n0
  go_wp2_with (first | (go_at_call 16; refine (HA _ N.out.hb).mono ?_; rintro e' w5 ⟨rfl, hb5⟩; have N := Lib.hid (N.out.below hb5); have n0 := (N.out.bc).c0; have n1 := (N.out.bc).box1; have n2 := (N.out.bc).box2; have n3 := (N.out.bc).box3; have n4 := (N.out.bc).box4; have n5 := (N.out.bc).box5; have n6 := (N.out.bc).box6; have e0 := (N.out.b6).c0; have e1 := (N.out.b6).c1; have e2 := (N.out.b6).c2; have e3 := (N.out.b6).c3; have e4 := (N.out.b6).c4; have e5 := (N.out.b6).c5; rw [HK.out] at n0; clear hb5 HA) | (go_at_call 16; refine (HB _ N.out.hb).mono ?_; rintro e' w7 ⟨rfl, hb7⟩; have N := Lib.hid (N.out.below hb7); clear hb7 HB))
  go_ret3
  exact ⟨rfl, N.out.hb⟩
set_option maxRecDepth 100000 in
set_option maxHeartbeats 6400000 in
theorem ts_or1 (x : Cv) (v o : NV) (res t : Int) (g len cc j : Nat) (w : World) (hj : j < len) (hE : BxC w g (j * 7) x) (hk : x.c.k = 4) (qa : Int) (HA : ∀ W, Below w.heap.size w W → Calls Try.prog 16 #[.slice (some ⟨g, 0, none⟩) len cc, .int .i64 x.c.a, envA v o res t] W fun e' w' => e' = .returned (.tuple #[.bool true, .int .i64 0, .int .i64 qa]) ∧ Below W.heap.size W w')  :
    Calls Try.prog 16 #[.slice (some ⟨g, 0, none⟩) len cc, .int .i64 (j : Int), envA v o res t] w fun e' w' => e' = .returned (.tuple #[.bool true, .int .i64 0, .int .i64 qa]) ∧ Below w.heap.size w w' := by
  have HK : Hid (x.c.k = 4) := Lib.hid hk
  clear hk
  unfold envA at HA
  obtain ⟨mp, ba, bl, bc⟩ := v
  unfold envA
  simp only at HA
  have HE := Lib.hid hE
  have m0 := hE.c0
  have m1 := hE.c1
  have m2 := hE.c2
  have m3 := hE.c3
  have m4 := hE.c4
  have m5 := hE.c5
  have m6 := hE.c6
  have hj0 : (0 : Int) ≤ (j : Int) := by omega
  have hj1 : (j : Int) < (len : Int) := by omega
  have hg0 : g ≠ w.heap.size := by have := hE.lt; omega
  clear hE
  simp only
  go_enter Try.func16, Try.ntmps16
  go_upto_region 1 with fail
  refine at_world (fun W => Below w.heap.size w W ∧ W.heap.size = w.heap.size + 1 ∧ Bx6 W w.heap.size ⟨mp, ba, bl, bc⟩ o res t ∧ BxC W g (j * 7) x) ⟨(by repeat' (first | exact Below.refl _ _ | (refine Below.alloc ?_ ?_ _) | (refine Below.setCell ?_ ?_ _) | (refine Below.drew ?_) | (refine below_next ?_ ?_ (by assumption)) | omega | (simp; done) | (simp; omega))), by simp, ⟨by first | (simp; done) | (simp; omega), by simp [go_sem], by simp [go_sem], by simp [go_sem], by simp [go_sem], by simp [go_sem], by simp [go_sem]⟩, HE.out.below (by repeat' (first | exact Below.refl _ _ | (refine Below.alloc ?_ ?_ _) | (refine Below.setCell ?_ ?_ _) | (refine Below.drew ?_) | (refine below_next ?_ ?_ (by assumption)) | omega | (simp; done) | (simp; omega)))⟩ ?_
  rintro W0 ⟨hb0, hz0, B6, BE⟩
  clear m0 m1 m2 m3 m4 m5 m6
  have m0 := BE.c0
  have m1 := BE.c1
  have m2 := BE.c2
  have m3 := BE.c3
  have m4 := BE.c4
  have m5 := BE.c5
  have m6 := BE.c6
  go_upto_region 4 with fail
  refine at_world (fun W => TsI w W x ⟨mp, ba, bl, bc⟩ o res t) ⟨below_next hb0 hb0.size (by repeat' (first | exact Below.refl _ _ | (refine Below.alloc ?_ ?_ _) | (refine Below.setCell ?_ ?_ _) | (refine Below.drew ?_) | (refine below_next ?_ ?_ (by assumption)) | omega | (simp; done) | (simp; omega))), B6.below (by repeat' (first | exact Below.refl _ _ | (refine Below.alloc ?_ ?_ _) | (refine Below.setCell ?_ ?_ _) | (refine Below.drew ?_) | (refine below_next ?_ ?_ (by assumption)) | omega | (simp; done) | (simp; omega))), by rw [← hz0]; exact ⟨by first | (simp; done) | (simp; omega), by simp [go_sem], by simp [go_sem], by simp [go_sem], by simp [go_sem], by simp [go_sem], by simp [go_sem], by simp [go_sem]⟩⟩ ?_
  intro W1 N1
  (try simp only [hz0])
  clear m0 m1 m2 m3 m4 m5 m6 hb0 hz0 B6 BE
  have N := Lib.hid N1
  have n0 := (N1.bc).c0; have n1 := (N1.bc).box1; have n2 := (N1.bc).box2; have n3 := (N1.bc).box3; have n4 := (N1.bc).box4; have n5 := (N1.bc).box5; have n6 := (N1.bc).box6; have e0 := (N1.b6).c0; have e1 := (N1.b6).c1; have e2 := (N1.b6).c2; have e3 := (N1.b6).c3; have e4 := (N1.b6).c4; have e5 := (N1.b6).c5
  clear N1
  rw [HK.out] at n0
  go_wp2_with (go_at_call 16; refine (HA _ N.out.hb).mono ?_; rintro e' w5 ⟨rfl, hb5⟩; have N := Lib.hid (N.out.below hb5); have n0 := (N.out.bc).c0; have n1 := (N.out.bc).box1; have n2 := (N.out.bc).box2; have n3 := (N.out.bc).box3; have n4 := (N.out.bc).box4; have n5 := (N.out.bc).box5; have n6 := (N.out.bc).box6; have e0 := (N.out.b6).c0; have e1 := (N.out.b6).c1; have e2 := (N.out.b6).c2; have e3 := (N.out.b6).c3; have e4 := (N.out.b6).c4; have e5 := (N.out.b6).c5; rw [HK.out] at n0; clear hb5 HA)
  go_ret3
  exact ⟨rfl, N.out.hb⟩
set_option maxRecDepth 100000 in
set_option maxHeartbeats 6400000 in
theorem ts_or2 (x : Cv) (v o : NV) (res t : Int) (g len cc j : Nat) (w : World) (hj : j < len) (hE : BxC w g (j * 7) x) (hk : x.c.k = 4) (qa pu pa : Int) (pb : Bool) (HA : ∀ W, Below w.heap.size w W → Calls Try.prog 16 #[.slice (some ⟨g, 0, none⟩) len cc, .int .i64 x.c.a, envA v o res t] W fun e' w' => e' = .returned (.tuple #[.bool false, .int .i64 0, .int .i64 qa]) ∧ Below W.heap.size W w') (HB : ∀ W, Below w.heap.size w W → Calls Try.prog 16 #[.slice (some ⟨g, 0, none⟩) len cc, .int .i64 x.c.b, envA v o res t] W fun e' w' => e' = .returned (.tuple #[.bool pb, .int .i64 pu, .int .i64 pa]) ∧ Below W.heap.size W w')  :
    Calls Try.prog 16 #[.slice (some ⟨g, 0, none⟩) len cc, .int .i64 (j : Int), envA v o res t] w fun e' w' => e' = .returned (.tuple #[.bool pb, .int .i64 pu, .int .i64 pa]) ∧ Below w.heap.size w w' := by
  have HK : Hid (x.c.k = 4) := Lib.hid hk
  clear hk
  unfold envA at HA HB
  obtain ⟨mp, ba, bl, bc⟩ := v
  unfold envA
  simp only at HA HB
  have HE := Lib.hid hE
  have m0 := hE.c0
  have m1 := hE.c1
  have m2 := hE.c2
  have m3 := hE.c3
  have m4 := hE.c4
  have m5 := hE.c5
  have m6 := hE.c6
  have hj0 : (0 : Int) ≤ (j : Int) := by omega
  have hj1 : (j : Int) < (len : Int) := by omega
  have hg0 : g ≠ w.heap.size := by have := hE.lt; omega
  clear hE
  simp only
  go_enter Try.func16, Try.ntmps16
  go_upto_region 1 with fail
  refine at_world (fun W => Below w.heap.size w W ∧ W.heap.size = w.heap.size + 1 ∧ Bx6 W w.heap.size ⟨mp, ba, bl, bc⟩ o res t ∧ BxC W g (j * 7) x) ⟨(by repeat' (first | exact Below.refl _ _ | (refine Below.alloc ?_ ?_ _) | (refine Below.setCell ?_ ?_ _) | (refine Below.drew ?_) | (refine below_next ?_ ?_ (by assumption)) | omega | (simp; done) | (simp; omega))), by simp, ⟨by first | (simp; done) | (simp; omega), by simp [go_sem], by simp [go_sem], by simp [go_sem], by simp [go_sem], by simp [go_sem], by simp [go_sem]⟩, HE.out.below (by repeat' (first | exact Below.refl _ _ | (refine Below.alloc ?_ ?_ _) | (refine Below.setCell ?_ ?_ _) | (refine Below.drew ?_) | (refine below_next ?_ ?_ (by assumption)) | omega | (simp; done) | (simp; omega)))⟩ ?_
  rintro W0 ⟨hb0, hz0, B6, BE⟩
  clear m0 m1 m2 m3 m4 m5 m6
  have m0 := BE.c0
  have m1 := BE.c1
  have m2 := BE.c2
  have m3 := BE.c3
  have m4 := BE.c4
  have m5 := BE.c5
  have m6 := BE.c6
  go_upto_region 4 with fail
  refine at_world (fun W => TsI w W x ⟨mp, ba, bl, bc⟩ o res t) ⟨below_next hb0 hb0.size (by repeat' (first | exact Below.refl _ _ | (refine Below.alloc ?_ ?_ _) | (refine Below.setCell ?_ ?_ _) | (refine Below.drew ?_) | (refine below_next ?_ ?_ (by assumption)) | omega | (simp; done) | (simp; omega))), B6.below (by repeat' (first | exact Below.refl _ _ | (refine Below.alloc ?_ ?_ _) | (refine Below.setCell ?_ ?_ _) | (refine Below.drew ?_) | (refine below_next ?_ ?_ (by assumption)) | omega | (simp; done) | (simp; omega))), by rw [← hz0]; exact ⟨by first | (simp; done) | (simp; omega), by simp [go_sem], by simp [go_sem], by simp [go_sem], by simp [go_sem], by simp [go_sem], by simp [go_sem], by simp [go_sem]⟩⟩ ?_
  intro W1 N1
  (try simp only [hz0])
  clear m0 m1 m2 m3 m4 m5 m6 hb0 hz0 B6 BE
  have N := Lib.hid N1
  have n0 := (N1.bc).c0; have n1 := (N1.bc).box1; have n2 := (N1.bc).box2; have n3 := (N1.bc).box3; have n4 := (N1.bc).box4; have n5 := (N1.bc).box5; have n6 := (N1.bc).box6; have e0 := (N1.b6).c0; have e1 := (N1.b6).c1; have e2 := (N1.b6).c2; have e3 := (N1.b6).c3; have e4 := (N1.b6).c4; have e5 := (N1.b6).c5
  clear N1
  rw [HK.out] at n0
  go_wp2_with (first | (go_at_call 16; refine (HA _ N.out.hb).mono ?_; rintro e' w5 ⟨rfl, hb5⟩; have N := Lib.hid (N.out.below hb5); have n0 := (N.out.bc).c0; have n1 := (N.out.bc).box1; have n2 := (N.out.bc).box2; have n3 := (N.out.bc).box3; have n4 := (N.out.bc).box4; have n5 := (N.out.bc).box5; have n6 := (N.out.bc).box6; have e0 := (N.out.b6).c0; have e1 := (N.out.b6).c1; have e2 := (N.out.b6).c2; have e3 := (N.out.b6).c3; have e4 := (N.out.b6).c4; have e5 := (N.out.b6).c5; rw [HK.out] at n0; clear hb5 HA) | (go_at_call 16; refine (HB _ N.out.hb).mono ?_; rintro e' w7 ⟨rfl, hb7⟩; have N := Lib.hid (N.out.below hb7); clear hb7 HB))
  go_ret3
  exact ⟨rfl, N.out.hb⟩
set_option maxRecDepth 100000 in
set_option maxHeartbeats 6400000 in
theorem ts_or3 (x : Cv) (v o : NV) (res t : Int) (g len cc j : Nat) (w : World) (hj : j < len) (hE : BxC w g (j * 7) x) (hk : x.c.k = 4) (qu qa : Int) (hu : qu ≠ 0) (HA : ∀ W, Below w.heap.size w W → Calls Try.prog 16 #[.slice (some ⟨g, 0, none⟩) len cc, .int .i64 x.c.a, envA v o res t] W fun e' w' => e' = .returned (.tuple #[.bool false, .int .i64 qu, .int .i64 qa]) ∧ Below W.heap.size W w')  :
    Calls Try.prog 16 #[.slice (some ⟨g, 0, none⟩) len cc, .int .i64 (j : Int), envA v o res t] w fun e' w' => e' = .returned (.tuple #[.bool false, .int .i64 qu, .int .i64 qa]) ∧ Below w.heap.size w w' := by
  have HK : Hid (x.c.k = 4) := Lib.hid hk
  clear hk
  unfold envA at HA
  have u0 : (qu == 0) = false := by rw [beq_eq_false_iff_ne]; exact hu
  have u1 : (qu != 0) = true := by rw [bne, u0]; rfl
  clear hu
  obtain ⟨mp, ba, bl, bc⟩ := v
  unfold envA
  simp only at HA
  have HE := Lib.hid hE
  have m0 := hE.c0
  have m1 := hE.c1
  have m2 := hE.c2
  have m3 := hE.c3
  have m4 := hE.c4
  have m5 := hE.c5
  have m6 := hE.c6
  have hj0 : (0 : Int) ≤ (j : Int) := by omega
  have hj1 : (j : Int) < (len : Int) := by omega
  have hg0 : g ≠ w.heap.size := by have := hE.lt; omega
  clear hE
  simp only
  go_enter Try.func16, Try.ntmps16
  go_upto_region 1 with fail
  refine at_world (fun W => Below w.heap.size w W ∧ W.heap.size = w.heap.size + 1 ∧ Bx6 W w.heap.size ⟨mp, ba, bl, bc⟩ o res t ∧ BxC W g (j * 7) x) ⟨(by repeat' (first | exact Below.refl _ _ | (refine Below.alloc ?_ ?_ _) | (refine Below.setCell ?_ ?_ _) | (refine Below.drew ?_) | (refine below_next ?_ ?_ (by assumption)) | omega | (simp; done) | (simp; omega))), by simp, ⟨by first | (simp; done) | (simp; omega), by simp [go_sem], by simp [go_sem], by simp [go_sem], by simp [go_sem], by simp [go_sem], by simp [go_sem]⟩, HE.out.below (by repeat' (first | exact Below.refl _ _ | (refine Below.alloc ?_ ?_ _) | (refine Below.setCell ?_ ?_ _) | (refine Below.drew ?_) | (refine below_next ?_ ?_ (by assumption)) | omega | (simp; done) | (simp; omega)))⟩ ?_
  rintro W0 ⟨hb0, hz0, B6, BE⟩
  clear m0 m1 m2 m3 m4 m5 m6
  have m0 := BE.c0
  have m1 := BE.c1
  have m2 := BE.c2
  have m3 := BE.c3
  have m4 := BE.c4
  have m5 := BE.c5
  have m6 := BE.c6
  go_upto_region 4 with fail
  refine at_world (fun W => TsI w W x ⟨mp, ba, bl, bc⟩ o res t) ⟨below_next hb0 hb0.size (by repeat' (first | exact Below.refl _ _ | (refine Below.alloc ?_ ?_ _) | (refine Below.setCell ?_ ?_ _) | (refine Below.drew ?_) | (refine below_next ?_ ?_ (by assumption)) | omega | (simp; done) | (simp; omega))), B6.below (by repeat' (first | exact Below.refl _ _ | (refine Below.alloc ?_ ?_ _) | (refine Below.setCell ?_ ?_ _) | (refine Below.drew ?_) | (refine below_next ?_ ?_ (by assumption)) | omega | (simp; done) | (simp; omega))), by rw [← hz0]; exact ⟨by first | (simp; done) | (simp; omega), by simp [go_sem], by simp [go_sem], by simp [go_sem], by simp [go_sem], by simp [go_sem], by simp [go_sem], by simp [go_sem]⟩⟩ ?_
  intro W1 N1
  (try simp only [hz0])
  clear m0 m1 m2 m3 m4 m5 m6 hb0 hz0 B6 BE
  have N := Lib.hid N1
  have n0 := (N1.bc).c0; have n1 := (N1.bc).box1; have n2 := (N1.bc).box2; have n3 := (N1.bc).box3; have n4 := (N1.bc).box4; have n5 := (N1.bc).box5; have n6 := (N1.bc).box6; have e0 := (N1.b6).c0; have e1 := (N1.b6).c1; have e2 := (N1.b6).c2; have e3 := (N1.b6).c3; have e4 := (N1.b6).c4; have e5 := (N1.b6).c5
  clear N1
  rw [HK.out] at n0
  go_wp2_with (go_at_call 16; refine (HA _ N.out.hb).mono ?_; rintro e' w5 ⟨rfl, hb5⟩; have N := Lib.hid (N.out.below hb5); have n0 := (N.out.bc).c0; have n1 := (N.out.bc).box1; have n2 := (N.out.bc).box2; have n3 := (N.out.bc).box3; have n4 := (N.out.bc).box4; have n5 := (N.out.bc).box5; have n6 := (N.out.bc).box6; have e0 := (N.out.b6).c0; have e1 := (N.out.b6).c1; have e2 := (N.out.b6).c2; have e3 := (N.out.b6).c3; have e4 := (N.out.b6).c4; have e5 := (N.out.b6).c5; rw [HK.out] at n0; clear hb5 HA)
  go_ret3
  exact ⟨rfl, N.out.hb⟩
set_option maxRecDepth 100000 in
set_option maxHeartbeats 6400000 in
theorem ts_none (x : Cv) (v o : NV) (res t : Int) (g len cc j : Nat) (w : World) (hj : j < len) (hE : BxC w g (j * 7) x) (h1 : x.c.k ≠ 1) (h2 : x.c.k ≠ 2) (h3 : x.c.k ≠ 3) (h4 : x.c.k ≠ 4) :
    Calls Try.prog 16 #[.slice (some ⟨g, 0, none⟩) len cc, .int .i64 (j : Int), envA v o res t] w fun e' w' => e' = .returned (.tuple #[.bool false, .int .i64 0, .int .i64 0]) ∧ Below w.heap.size w w' := by
  have k1 : (x.c.k == 1) = false := by rw [beq_eq_false_iff_ne]; omega
  have k2 : (x.c.k == 2) = false := by rw [beq_eq_false_iff_ne]; omega
  have k3 : (x.c.k == 3) = false := by rw [beq_eq_false_iff_ne]; omega
  have k4 : (x.c.k == 4) = false := by rw [beq_eq_false_iff_ne]; omega
  obtain ⟨kk, hkk⟩ : ∃ k, x.c.k = k := ⟨_, rfl⟩
  rw [hkk] at k1 k2 k3 k4
  have HK := Lib.hid hkk
  clear hkk h1 h2 h3 h4
  obtain ⟨mp, ba, bl, bc⟩ := v
  unfold envA
  have HE := Lib.hid hE
  have m0 := hE.c0
  have m1 := hE.c1
  have m2 := hE.c2
  have m3 := hE.c3
  have m4 := hE.c4
  have m5 := hE.c5
  have m6 := hE.c6
  have hj0 : (0 : Int) ≤ (j : Int) := by omega
  have hj1 : (j : Int) < (len : Int) := by omega
  have hg0 : g ≠ w.heap.size := by have := hE.lt; omega
  clear hE
  simp only
  go_enter Try.func16, Try.ntmps16
  go_upto_region 1 with fail
  refine at_world (fun W => Below w.heap.size w W ∧ W.heap.size = w.heap.size + 1 ∧ Bx6 W w.heap.size ⟨mp, ba, bl, bc⟩ o res t ∧ BxC W g (j * 7) x) ⟨(by repeat' (first | exact Below.refl _ _ | (refine Below.alloc ?_ ?_ _) | (refine Below.setCell ?_ ?_ _) | (refine Below.drew ?_) | (refine below_next ?_ ?_ (by assumption)) | omega | (simp; done) | (simp; omega))), by simp, ⟨by first | (simp; done) | (simp; omega), by simp [go_sem], by simp [go_sem], by simp [go_sem], by simp [go_sem], by simp [go_sem], by simp [go_sem]⟩, HE.out.below (by repeat' (first | exact Below.refl _ _ | (refine Below.alloc ?_ ?_ _) | (refine Below.setCell ?_ ?_ _) | (refine Below.drew ?_) | (refine below_next ?_ ?_ (by assumption)) | omega | (simp; done) | (simp; omega)))⟩ ?_
  rintro W0 ⟨hb0, hz0, B6, BE⟩
  clear m0 m1 m2 m3 m4 m5 m6
  have m0 := BE.c0
  have m1 := BE.c1
  have m2 := BE.c2
  have m3 := BE.c3
  have m4 := BE.c4
  have m5 := BE.c5
  have m6 := BE.c6
  go_upto_region 4 with fail
  refine at_world (fun W => TsI w W x ⟨mp, ba, bl, bc⟩ o res t) ⟨below_next hb0 hb0.size (by repeat' (first | exact Below.refl _ _ | (refine Below.alloc ?_ ?_ _) | (refine Below.setCell ?_ ?_ _) | (refine Below.drew ?_) | (refine below_next ?_ ?_ (by assumption)) | omega | (simp; done) | (simp; omega))), B6.below (by repeat' (first | exact Below.refl _ _ | (refine Below.alloc ?_ ?_ _) | (refine Below.setCell ?_ ?_ _) | (refine Below.drew ?_) | (refine below_next ?_ ?_ (by assumption)) | omega | (simp; done) | (simp; omega))), by rw [← hz0]; exact ⟨by first | (simp; done) | (simp; omega), by simp [go_sem], by simp [go_sem], by simp [go_sem], by simp [go_sem], by simp [go_sem], by simp [go_sem], by simp [go_sem]⟩⟩ ?_
  intro W1 N1
  (try simp only [hz0])
  clear m0 m1 m2 m3 m4 m5 m6 hb0 hz0 B6 BE
  have N := Lib.hid N1
  have n0 := (N1.bc).c0; have n1 := (N1.bc).box1; have n2 := (N1.bc).box2; have n3 := (N1.bc).box3; have n4 := (N1.bc).box4; have n5 := (N1.bc).box5; have n6 := (N1.bc).box6; have e0 := (N1.b6).c0; have e1 := (N1.b6).c1; have e2 := (N1.b6).c2; have e3 := (N1.b6).c3; have e4 := (N1.b6).c4; have e5 := (N1.b6).c5
  clear N1
  rw [HK.out] at n0
  go_wp2_with fail
  go_ret3
  exact ⟨rfl, N.out.hb⟩
set_option maxRecDepth 100000 in
set_option maxHeartbeats 6400000 in
theorem ts_out (v o : NV) (res t at_ : Int) (A : Option Addr) (len cc : Nat) (w : World) (h : at_ < 0 ∨ (len : Int) ≤ at_) :
    Calls Try.prog 16 #[.slice A len cc, .int .i64 at_, envA v o res t] w fun e' w' => e' = .returned (.tuple #[.bool false, .int .i64 0, .int .i64 0]) ∧ Below w.heap.size w w' := by
  unfold envA
  rcases (by omega : at_ < 0 ∨ (0 ≤ at_ ∧ (len : Int) ≤ at_)) with h1 | ⟨h1, h2⟩
  · clear h
    go_enter Try.func16, Try.ntmps16
    go_wp2_with fail
    go_ret3
    exact ⟨rfl, (by repeat' (first | exact Below.refl _ _ | (refine Below.alloc ?_ ?_ _) | (refine Below.setCell ?_ ?_ _) | (refine Below.drew ?_) | (refine below_next ?_ ?_ (by assumption)) | omega | (simp; done) | (simp; omega)))⟩
  · have g0 : decide (at_ < 0) = false := decide_eq_false (by omega)
    clear h
    go_enter Try.func16, Try.ntmps16
    go_wp2_with fail
    go_ret3
    exact ⟨rfl, (by repeat' (first | exact Below.refl _ _ | (refine Below.alloc ?_ ?_ _) | (refine Below.setCell ?_ ?_ _) | (refine Below.drew ?_) | (refine below_next ?_ ?_ (by assumption)) | omega | (simp; done) | (simp; omega)))⟩
end Go.Proofs.Ytlhenpocaagbjaa.C

namespace Go.Proofs.Ytlhenpocaagbjaa.C
open Go.RowKit
set_option linter.unusedSimpArgs false
set_option linter.unusedVariables false
def tV (r : Bool × Int × Int) : Value := .tuple #[.bool r.1, .int .i64 r.2.1, .int .i64 r.2.2]
theorem test_c (l : List Cv) (hK : KidsC (csOf l)) (hL : CLen 8193 (csOf l)) (A : Option Addr) (cc : Nat) (v o : NV) (e eo : Env0) (res t : Int) : ∀ (f : Nat) (at_ : Int) (w : World), (at_ < (f : Int) ∨ (l.length : Int) ≤ at_) → CRd w A l → NOK 59 w v e → NOK 59 w o eo →
    Calls Try.prog 16 #[.slice A l.length cc, .int .i64 at_, envA v o res t] w fun e' w' => e' = .returned (tV (tF (csOf l) eo res t e f at_)) ∧ Below w.heap.size w w' := by
  intro f
  induction f with
  | zero =>
    intro at_ w hat hE hv ho
    exact ts_out v o res t at_ A l.length cc w (by omega)
  | succ f ih =>
    intro at_ w hat hE hv ho
    by_cases hout : at_ < 0 ∨ (l.length : Int) ≤ at_
    · rw [tF, if_pos (by rw [csOf_len]; exact hout)]
      exact ts_out v o res t at_ A l.length cc w hout
    · obtain ⟨j, rfl⟩ := Int.eq_ofNat_of_zero_le (show 0 ≤ at_ by omega)
      have hj : j < l.length := by omega
      have hne : l ≠ [] := by intro x; rw [x] at hj; simp at hj
      obtain ⟨g, rfl, hg⟩ := hE hne
      obtain ⟨x, hget⟩ : ∃ x, l[j]? = some x := ⟨l[j], by rw [List.getElem?_eq_getElem hj]⟩
      have hcs : (csOf l)[j]? = some x.c := by unfold csOf; rw [List.getElem?_map, hget]; rfl
      have hgd : (csOf l).getD j cd0 = x.c := by rw [List.getD_eq_getElem?_getD, hcs]; rfl
      obtain ⟨hB, hEx, hEy⟩ := hg j x hget
      obtain ⟨⟨⟨ka, kb⟩, ka1, kb1⟩, kx, ky⟩ := hK j x.c hcs
      obtain ⟨lx, ly⟩ := hL x.c (List.mem_of_getElem? hcs)
      rw [tF, if_neg (by rw [csOf_len]; exact hout)]
      simp only [Int.toNat_natCast, hgd]
      have IA : ∀ W, Below w.heap.size w W → Calls Try.prog 16 #[.slice (some ⟨g, 0, none⟩) l.length cc, .int .i64 x.c.a, envA v o res t] W fun e' w' => e' = .returned (tV (tF (csOf l) eo res t e f x.c.a)) ∧ Below W.heap.size W w' := fun W hb => ih x.c.a W (by omega) (hE.below hb) (hv.below hb) (ho.below hb)
      have IB : ∀ W, Below w.heap.size w W → Calls Try.prog 16 #[.slice (some ⟨g, 0, none⟩) l.length cc, .int .i64 x.c.b, envA v o res t] W fun e' w' => e' = .returned (tV (tF (csOf l) eo res t e f x.c.b)) ∧ Below W.heap.size W w' := fun W hb => ih x.c.b W (by omega) (hE.below hb) (hv.below hb) (ho.below hb)
      have UA := tF_ub (csOf l) eo res t e f x.c.a
      obtain ⟨⟨qb, qu, qa⟩, hq⟩ : ∃ q, tF (csOf l) eo res t e f x.c.a = q := ⟨_, rfl⟩
      obtain ⟨⟨pb, pu, pa⟩, hp⟩ : ∃ q, tF (csOf l) eo res t e f x.c.b = q := ⟨_, rfl⟩
      rw [hq] at IA UA ⊢
      rw [hp] at IB ⊢
      simp only at UA ⊢
      by_cases h1 : x.c.k = 1
      · rw [if_pos h1]
        have NA : ∀ W, Below w.heap.size w W → Calls Try.prog 24 #[.slice x.ax x.c.x.length x.cx, .int .i64 ((x.c.x.length : Int) - 1), envA v o res t] W fun e' w' => e' = .returned (gtV (vF x.c.x eo res t x.c.x.length e ((x.c.x.length : Int) - 1))) ∧ Below W.heap.size W w' := fun W hb => node_c x.c.x kx x.ax x.cx o eo res t x.c.x.length _ v e W (by omega) (hEx.below hb) (hv.below hb) (ho.below hb)
        have NB : ∀ W, Below w.heap.size w W → Calls Try.prog 24 #[.slice x.ay x.c.y.length x.cy, .int .i64 ((x.c.y.length : Int) - 1), envA v o res t] W fun e' w' => e' = .returned (gtV (vF x.c.y eo res t x.c.y.length e ((x.c.y.length : Int) - 1))) ∧ Below W.heap.size W w' := fun W hb => node_c x.c.y ky x.ay x.cy o eo res t x.c.y.length _ v e W (by omega) (hEy.below hb) (hv.below hb) (ho.below hb)
        unfold relT
        obtain ⟨a, ha⟩ : ∃ a, vF x.c.x eo res t x.c.x.length e ((x.c.x.length : Int) - 1) = a := ⟨_, rfl⟩
        obtain ⟨b, hb⟩ : ∃ b, vF x.c.y eo res t x.c.y.length e ((x.c.y.length : Int) - 1) = b := ⟨_, rfl⟩
        rw [ha] at NA ⊢
        rw [hb] at NB ⊢
        simp only
        by_cases hu : a.ub = 0
        · rw [if_pos hu]
          by_cases hv2 : b.ub = 0
          · rw [if_pos hv2]
            exact ts_rel3 x v o res t g l.length cc j w hj hB h1 _ _ rfl rfl (by omega) (by omega) a b NA NB hu hv2 _ _ _ _ rfl rfl rfl rfl
          · rw [if_neg hv2]
            exact ts_rel2 x v o res t g l.length cc j w hj hB h1 _ _ rfl rfl (by omega) (by omega) a b NA NB hu hv2
        · rw [if_neg hu]
          exact ts_rel1 x v o res t g l.length cc j w hj hB h1 _ _ rfl rfl (by omega) (by omega) a b NA NB hu
      rw [if_neg h1]
      by_cases h2 : x.c.k = 2
      · rw [if_pos h2]
        exact ts_not x v o res t g l.length cc j w hj hB h2 qb qu qa IA
      rw [if_neg h2]
      by_cases h3 : x.c.k = 3
      · rw [if_pos h3]
        cases qb with
        | true =>
          have q0 : qu = 0 := Classical.byContradiction (fun h => by cases UA h)
          subst q0
          rw [if_pos rfl]
          exact ts_and2 x v o res t g l.length cc j w hj hB h3 qa pu pa pb IA IB
        | false =>
          rw [if_neg (by decide)]
          exact ts_and1 x v o res t g l.length cc j w hj hB h3 qu qa IA
      rw [if_neg h3]
      by_cases h4 : x.c.k = 4
      · rw [if_pos h4]
        cases qb with
        | true =>
          have q0 : qu = 0 := Classical.byContradiction (fun h => by cases UA h)
          subst q0
          rw [if_pos rfl]
          exact ts_or1 x v o res t g l.length cc j w hj hB h4 qa IA
        | false =>
          rw [if_neg (by decide)]
          by_cases hu : qu = 0
          · rw [if_pos hu]
            subst hu
            exact ts_or2 x v o res t g l.length cc j w hj hB h4 qa pu pa pb IA IB
          · rw [if_neg hu]
            exact ts_or3 x v o res t g l.length cc j w hj hB h4 qu qa hu IA
      rw [if_neg h4]
      exact ts_none x v o res t g l.length cc j w hj hB h1 h2 h3 h4
end Go.Proofs.Ytlhenpocaagbjaa.C

namespace Go.Proofs.Ytlhenpocaagbjaa.C
open Go.RowKit
set_option linter.unusedSimpArgs false
set_option linter.unusedVariables false
theorem IntRow.rowc8 {w : World} {A : Option Addr} {n : Nat} {zs : List Int} (h : IntRow w .i64 A n zs) : RowC w A n (fun j => zs.getD j 0) :=
  ⟨by have := h.2.1; unfold maxLen at this; exact this, fun h0 => by obtain ⟨ad, e, _, hc⟩ := h.2.2.2 h0; exact ⟨ad, e, hc⟩⟩
/-- The binds of the names. -/
def nmBs : List Bd := [⟨⟨#[120]⟩, 5, 0, 0⟩, ⟨⟨#[121]⟩, 2, 0, 1⟩, ⟨⟨#[103, 48]⟩, 6, 0, 2⟩, ⟨⟨#[103, 97]⟩, 3, 4, 3⟩]
theorem names8_c (w : World) : Calls Try.prog 11 #[] w fun e w' => e = .returned (.slice (some ⟨w.heap.size, 0, none⟩) 4 4) ∧ BL w' w.heap.size nmBs ∧ Below w.heap.size w w' := by
  go_enter Try.func11, Try.ntmps11
  go_wp2
  go_ret
  refine ⟨rfl, ⟨by simp, fun j b hj => ?_⟩, (by repeat' (first | exact Below.refl _ _ | (refine Below.alloc ?_ ?_ _) | (refine Below.setCell ?_ ?_ _) | (refine Below.drew ?_) | (refine below_next ?_ ?_ (by assumption)) | omega | (simp; done) | (simp; omega)))⟩
  match j, hj with
  | 0, hj => obtain rfl : (⟨⟨#[120]⟩, 5, 0, 0⟩ : Bd) = b := by simpa [nmBs] using hj
             simp [go_sem]
  | 1, hj => obtain rfl : (⟨⟨#[121]⟩, 2, 0, 1⟩ : Bd) = b := by simpa [nmBs] using hj
             simp [go_sem]
  | 2, hj => obtain rfl : (⟨⟨#[103, 48]⟩, 6, 0, 2⟩ : Bd) = b := by simpa [nmBs] using hj
             simp [go_sem]
  | 3, hj => obtain rfl : (⟨⟨#[103, 97]⟩, 3, 4, 3⟩ : Bd) = b := by simpa [nmBs] using hj
             simp [go_sem]
  | n + 4, hj => simp [nmBs] at hj
/-- Two memories that answer alike. -/
def GetA (w : World) (fn : FuncId) (p : Nat) (get : Int → Int → Int) : Prop := ∀ w', Below w.heap.size w w' → ∀ id at' : Int, Calls Try.prog fn #[.pointer (some ⟨p, 0, none⟩), .int .i64 id, .int .i64 at'] w' fun e' w'' => ∃ b, e' = .returned (.tuple #[.int .i64 (get id at'), .bool b]) ∧ w' = w''
theorem GetA.below {w W : World} {fn : FuncId} {p : Nat} {get : Int → Int → Int} (h : GetA w fn p get) (hb : Below w.heap.size w W) : GetA W fn p get := fun w' hb2 => h w' (hb.trans (hb2.mono hb.size))
theorem TwP.gets {w : World} {B p1 p2 n : Nat} (h : TwP w B p1 p2 n) : ∃ get, GetA w 59 p1 get ∧ GetA w 36 p2 get := by
  obtain ⟨hB, ts, ln, f, L1, L2, ad1, ad2, cp1, cp2, hp⟩ := h
  refine ⟨fun id at' => if hasM n ln id at' = true then f id.toNat at'.toNat else 0, fun w' hb id at' => ?_, fun w' hb id at' => ?_⟩
  · have c := get_s B p1 n L1 ts ad1 ln cp1 f id at' w' (hp.below hb).a
    unfold getM at c
    refine c.mono ?_
    rintro e w'' ⟨he, hw⟩
    dsimp only
    by_cases hh : hasM n ln id at' = true
    · rw [if_pos hh] at he ⊢
      exact ⟨_, he, hw⟩
    · rw [if_neg hh] at he ⊢
      exact ⟨_, he, hw⟩
  · have c := rget_s B p2 n L2 ts ad2 ln cp2 f id at' w' (hp.below hb).b
    unfold getM at c
    refine c.mono ?_
    rintro e w'' ⟨he, hw⟩
    dsimp only
    by_cases hh : hasM n ln id at' = true
    · rw [if_pos hh] at he ⊢
      exact ⟨_, he, hw⟩
    · rw [if_neg hh] at he ⊢
      exact ⟨_, he, hw⟩
def nvOf (p g : Nat) : NV := ⟨some ⟨p, 0, none⟩, some ⟨g, 0, none⟩, 4, 4⟩
def envOf (get : Int → Int → Int) : Env0 := ⟨true, get, nmBs⟩
theorem nok_of {w : World} {p g : Nat} {get : Int → Int → Int} (h : GetA w 59 p get) (hb : BL w g nmBs) : NOK 59 w (nvOf p g) (envOf get) :=
  ⟨.inr ⟨g, 4, rfl, hb⟩, by show (4 : Nat) ≤ 100000; omega, .inr ⟨p, rfl, rfl, h⟩⟩
theorem rok_of {w : World} {p g : Nat} {get : Int → Int → Int} (h : GetA w 36 p get) (hb : BL w g nmBs) : ROK w (nvOf p g) (envOf get) :=
  ⟨⟨g, rfl, rfl, hb⟩, by show (4 : Nat) ≤ 100000; omega, rfl, p, rfl, h⟩
/-- The two environments. -/
structure Env2 (w W : World) (D1 D2 p1 p2 p3 p4 g1 g2 g3 g4 : Nat) (gn go : Int → Int → Int) (res t : Int) : Prop where
  hb : Below w.heap.size w W
  b1 : Bx6 W D1 (nvOf p1 g1) (nvOf p3 g2) res t
  b2 : Bx6 W D2 (nvOf p2 g3) (nvOf p4 g4) res t
  m1 : GetA W 59 p1 gn
  m2 : GetA W 36 p2 gn
  m3 : GetA W 59 p3 go
  m4 : GetA W 36 p4 go
  n1 : BL W g1 nmBs
  n2 : BL W g2 nmBs
  n3 : BL W g3 nmBs
  n4 : BL W g4 nmBs
theorem Env2.below {w W W' : World} {D1 D2 p1 p2 p3 p4 g1 g2 g3 g4 : Nat} {gn go : Int → Int → Int} {res t : Int} (h : Env2 w W D1 D2 p1 p2 p3 p4 g1 g2 g3 g4 gn go res t) (hb : Below W.heap.size W W') : Env2 w W' D1 D2 p1 p2 p3 p4 g1 g2 g3 g4 gn go res t :=
  ⟨below_next h.hb h.hb.size hb, h.b1.below hb, h.b2.below hb, h.m1.below hb, h.m2.below hb, h.m3.below hb, h.m4.below hb, h.n1.below hb, h.n2.below hb, h.n3.below hb, h.n4.below hb⟩
theorem gt_eta (g : Gt) : g = ⟨g.v, g.t, g.ub, g.at_⟩ := rfl
end Go.Proofs.Ytlhenpocaagbjaa.C

namespace Go.Proofs.Ytlhenpocaagbjaa.C
open Go.RowKit
set_option linter.unusedSimpArgs false
set_option linter.unusedVariables false
/-- The blocks' lengths; what they hold. -/
def bl8 (a : Nat) : Nat := if a = 3 then 4 else 1
def cv8 (vs : Nat → Int) (n a b : Nat) : Int := if a + b < n then wrapT (nT a) (vs (a + b)) else 0
theorem bl8_of {i m : Nat} {s : Int} (hi : i < 4) (hs : nS i = s) (hm : (if 1 < s then s else 1) = (m : Int)) : m = bl8 i ∧ sizeM (m : Int) = bl8 i := by
  rw [← hs] at hm
  rcases (by omega : i = 0 ∨ i = 1 ∨ i = 2 ∨ i = 3) with rfl | rfl | rfl | rfl <;> simp [nS, bl8, sizeM] at hm ⊢ <;> omega
def CtO (vs : Nat → Int) (n i : Nat) (ts : Nat → Int) (ln : Nat → Nat) (f : Nat → Nat → Int) : Prop := ∀ a, a < i → ts a = nT a ∧ ln a = bl8 a ∧ ∀ b, b < bl8 a → f a b = cv8 vs n a b
def CtI (vs : Nat → Int) (n i j : Nat) (ts : Nat → Int) (ln : Nat → Nat) (f : Nat → Nat → Int) : Prop := CtO vs n i ts ln f ∧ ts i = nT i ∧ ln i = bl8 i ∧ ∀ b, b < bl8 i → f i b = if b < j then cv8 vs n i b else 0
theorem CtO.add {vs : Nat → Int} {n i L : Nat} {t : Int} {ts : Nat → Int} {ln : Nat → Nat} {f : Nat → Nat → Int} (h : CtO vs n i ts ln f) (ht : t = nT i) (hL : L = bl8 i) : CtI vs n i 0 (addT i ts t) (addN i ln L) (addF i f fun _ => 0) := by
  refine ⟨fun a ha => ?_, ?_, ?_, fun b hb => ?_⟩
  · obtain ⟨h1, h2, h3⟩ := h a ha
    unfold addT addN addF
    rw [if_neg (by omega), if_neg (by omega), if_neg (by omega)]
    exact ⟨h1, h2, h3⟩
  · unfold addT; rw [if_pos rfl]; exact ht
  · unfold addN; rw [if_pos rfl]; exact hL
  · unfold addF; rw [if_pos rfl, if_neg (by omega)]
theorem CtI.set {vs : Nat → Int} {n i j : Nat} {v : Int} {ts : Nat → Int} {ln : Nat → Nat} {f : Nat → Nat → Int} (h : CtI vs n i j ts ln f) (hj : j < bl8 i) (hv : vs (i + j) = v) (hn : i + j < n) : CtI vs n i (j + 1) ts ln (setM (i + 1) ln ts f (i : Int) (j : Int) v) := by
  obtain ⟨h1, h2, h3, h4⟩ := h
  have hh : hasM (i + 1) ln (i : Int) (j : Int) = true := decide_eq_true ⟨by omega, by omega, by omega, by simp; omega⟩
  unfold setM
  rw [if_pos hh]
  simp only [Int.toNat_natCast]
  refine ⟨fun a ha => ?_, h2, h3, fun b hb => ?_⟩
  · obtain ⟨k1, k2, k3⟩ := h1 a ha
    refine ⟨k1, k2, fun b hb => ?_⟩
    unfold setF
    rw [if_neg (by omega)]
    exact k3 b hb
  · unfold setF
    by_cases e : b = j
    · subst e
      rw [if_pos ⟨rfl, rfl⟩, if_pos (by omega), h2]
      unfold cv8
      rw [if_pos hn, hv]
    · rw [if_neg (by omega), h4 b hb]
      by_cases e2 : b < j
      · rw [if_pos e2, if_pos (by omega)]
      · rw [if_neg e2, if_neg (by omega)]
theorem CtI.fin {vs : Nat → Int} {n i j : Nat} {ts : Nat → Int} {ln : Nat → Nat} {f : Nat → Nat → Int} (h : CtI vs n i j ts ln f) (hj : bl8 i ≤ j ∨ n ≤ i + j) : CtO vs n (i + 1) ts ln f := by
  obtain ⟨h1, h2, h3, h4⟩ := h
  intro a ha
  by_cases e : a < i
  · exact h1 a e
  · obtain rfl : a = i := by omega
    refine ⟨h2, h3, fun b hb => ?_⟩
    rw [h4 b hb]
    by_cases e2 : b < j
    · rw [if_pos e2]
    · rw [if_neg e2]
      unfold cv8
      rw [if_neg (by omega)]
def BoO (vs : Nat → Int) (n : Nat) (w wr : World) (p1 p2 i g : Nat) : Prop := Below w.heap.size w wr ∧ NmAt wr g ∧ ∃ ts ln f, Tw wr w.heap.size p1 p2 i i ts ts ln ln f f g ∧ CtO vs n i ts ln f
def BoI (vs : Nat → Int) (n : Nat) (w wr : World) (p1 p2 i j g : Nat) : Prop := Below w.heap.size w wr ∧ NmAt wr g ∧ ∃ ts ln f, Tw wr w.heap.size p1 p2 (i + 1) (i + 1) ts ts ln ln f f g ∧ CtI vs n i j ts ln f
theorem BoI.fin {vs : Nat → Int} {n : Nat} {w wr : World} {p1 p2 i j g : Nat} (h : BoI vs n w wr p1 p2 i j g) (hj : bl8 i ≤ j ∨ n ≤ i + j) : BoO vs n w wr p1 p2 (i + 1) g := by
  obtain ⟨h1, h2, ts, ln, f, h3, h4⟩ := h
  exact ⟨h1, h2, ts, ln, f, h3, h4.fin hj⟩
/-- What the memories answer. -/
def getC (vs : Nat → Int) (n : Nat) (id at' : Int) : Int := if 0 ≤ id ∧ id < 4 ∧ 0 ≤ at' ∧ at' < (bl8 id.toNat : Int) then cv8 vs n id.toNat at'.toNat else 0
def BothC (vs : Nat → Int) (n : Nat) (w : World) (e : Ending) (w' : World) : Prop := ∃ p1 p2, e = .returned (.tuple #[.pointer (some ⟨p1, 0, none⟩), .pointer (some ⟨p2, 0, none⟩), .bool true]) ∧ Below w.heap.size w w' ∧ GetA w' 59 p1 (getC vs n) ∧ GetA w' 36 p2 (getC vs n)
theorem CtO.get {vs : Nat → Int} {n : Nat} {ts : Nat → Int} {ln : Nat → Nat} {f : Nat → Nat → Int} (h : CtO vs n 4 ts ln f) (id at' : Int) : (if hasM 4 ln id at' = true then f id.toNat at'.toNat else 0) = getC vs n id at' := by
  unfold getC hasM
  by_cases hid : 0 ≤ id ∧ id < 4
  · obtain ⟨h1, h2, h3⟩ := h id.toNat (by omega)
    by_cases hat : 0 ≤ at' ∧ at' < (bl8 id.toNat : Int)
    · rw [if_pos (decide_eq_true ⟨hid.1, by omega, hat.1, by rw [h2]; exact hat.2⟩), if_pos ⟨hid.1, hid.2, hat.1, hat.2⟩]
      exact h3 _ (by omega)
    · rw [if_neg (by rw [decide_eq_true_eq]; rintro ⟨_, _, q1, q2⟩; rw [h2] at q2; exact hat ⟨q1, q2⟩), if_neg (fun q => hat q.2.2)]
  · rw [if_neg (by rw [decide_eq_true_eq]; rintro ⟨q1, q2, _⟩; exact hid ⟨q1, by omega⟩), if_neg (fun q => hid ⟨q.1, q.2.1⟩)]
theorem Tw.getsC {vs : Nat → Int} {n : Nat} {w : World} {B p1 p2 x : Nat} {ts : Nat → Int} {ln : Nat → Nat} {f : Nat → Nat → Int} (h : Tw w B p1 p2 4 4 ts ts ln ln f f x) (hc : CtO vs n 4 ts ln f) : GetA w 59 p1 (getC vs n) ∧ GetA w 36 p2 (getC vs n) := by
  obtain ⟨hB, L1, L2, ad1, ad2, cp1, cp2, hp, _⟩ := h
  refine ⟨fun w' hb id at' => ?_, fun w' hb id at' => ?_⟩
  · have c := get_s B p1 4 L1 ts ad1 ln cp1 f id at' w' (hp.below hb).a
    unfold getM at c
    refine c.mono ?_
    rintro e w'' ⟨he, hw⟩
    have hg := hc.get id at'
    by_cases hh : hasM 4 ln id at' = true
    · rw [if_pos hh] at he hg
      rw [← hg]
      exact ⟨_, he, hw⟩
    · rw [if_neg hh] at he hg
      rw [← hg]
      exact ⟨_, he, hw⟩
  · have c := rget_s B p2 4 L2 ts ad2 ln cp2 f id at' w' (hp.below hb).b
    unfold getM at c
    refine c.mono ?_
    rintro e w'' ⟨he, hw⟩
    have hg := hc.get id at'
    by_cases hh : hasM 4 ln id at' = true
    · rw [if_pos hh] at he hg
      rw [← hg]
      exact ⟨_, he, hw⟩
    · rw [if_neg hh] at he hg
      rw [← hg]
      exact ⟨_, he, hw⟩
set_option maxRecDepth 100000 in
set_option maxHeartbeats 12800000 in
theorem bothC_c (A : Option Addr) (n cap : Nat) (vs : Nat → Int) (w : World) (hA : RowC w A n vs) :
    Calls Try.prog 10 #[.slice A n cap] w (BothC vs n w) := by
  have hmax := hA.1
  have HA := Lib.hid hA
  clear hA
  go_enter Try.func10, Try.ntmps10
  go_upto_region 2 with (go_at_call 19; refine (new_c _).mono ?_; rintro e w1 ⟨rfl, hb1, hm1⟩)
  have hs1 := hb1.size
  have HP : Below w.heap.size w (w1.alloc (.cells #[.slice none 0 0] 62)) ∧ TwP (w1.alloc (.cells #[.slice none 0 0] 62)) w.heap.size w.heap.size w1.heap.size 0 := by
    have hba := (Below.refl w1.heap.size w1).alloc (Nat.le_refl _) (.cells #[.slice none 0 0] 62)
    have hlt := hm1.hp.2
    refine ⟨hb1.alloc hs1 _, by simp; omega, fun _ => 0, fun _ => 0, fun _ _ => 0, .slice none 0 0, .slice none 0 0, fun _ => 0, fun _ => 0, fun _ => 0, fun _ => 0, hm1.ms.below hba, ⟨⟨hs1, by simp⟩, by simp [go_sem], by simp [go_sem], .inl ⟨rfl, .inl ⟨rfl, rfl⟩⟩, by simp [Value.ownBlock], by intros; omega, by intros; omega, by intros; omega, by intros; omega⟩, fun x h1 h2 => ?_⟩
    rcases h1 with h1 | h1 | ⟨i, hi, _⟩
    · rcases h2 with h2 | h2 | ⟨i, hi, _⟩
      · omega
      · simp [Value.ownBlock] at h2
      · omega
    · simp [Value.ownBlock] at h1
    · omega
  refine at_world (fun W => Hid (Below w.heap.size w W ∧ TwP W w.heap.size w.heap.size w1.heap.size 0)) (Lib.hid HP) ?_
  obtain ⟨p2, hp2⟩ : ∃ b, w1.heap.size = b := ⟨_, rfl⟩
  simp only [hp2]
  clear hm1 hb1 HP hs1 hp2 w1
  intro W0 H0
  go_upto_region 5 with (go_at_call 11; refine (names_c _).mono ?_; rintro e w2 ⟨rfl, hn, hb2⟩)
  have HT := H0.out.2.fresh hb2 hn.1
  refine at_world (fun W => Hid (BoO vs n w W w.heap.size p2 0 W0.heap.size)) (Lib.hid (by obtain ⟨ts, ln, f, ht⟩ := HT; exact ⟨below_next H0.out.1 H0.out.1.size hb2, hn, ts, ln, f, ht, fun a ha => by omega⟩)) ?_
  obtain ⟨g, hg⟩ : ∃ b, W0.heap.size = b := ⟨_, rfl⟩
  simp only [hg]
  clear HT hb2 hn hg H0 w2 W0
  intro W1 H1
  go_wp2_with fail
  go_loopw [8, 9] (fun kk v wr => ∃ (i k : Nat), i ≤ 4 ∧ k ≤ n ∧ v = .int .i64 i ∧ kk = .int .i64 k ∧ Hid ((i ≤ 3 → k = min n i) ∧ BoO vs n w wr w.heap.size p2 i g)) (fun _ v _ => 4 - (intOf v).toNat)
  case atStart => exact ⟨0, 0, by omega, by omega, rfl, rfl, Lib.hid ⟨fun _ => by omega, H1.out⟩⟩
  case round =>
    clear H1
    obtain ⟨i, k, hi, hk, rfl, rfl, HIK⟩ := hrel
    have HMK := Lib.hid HIK.out.1
    have HI := Lib.hid HIK.out.2
    clear HIK
    obtain ⟨wo, rfl⟩ : ∃ wo : World, wo = wr := ⟨_, rfl⟩
    by_cases hlt : i < 4
    · have hi0 : (0 : Int) ≤ (i : Int) := by omega
      have hi1 : (i : Int) < 4 := by omega
      obtain ⟨q1, q2⟩ := HI.out.2.1.2 i hlt
      have hnS : 0 ≤ nS i ∧ nS i ≤ 4 := by unfold nS; split <;> omega
      obtain ⟨t, ht⟩ : ∃ x, nT i = x := ⟨_, rfl⟩
      obtain ⟨s, hs⟩ : ∃ x, nS i = x := ⟨_, rfl⟩
      rw [ht] at q1
      rw [hs] at q2 hnS
      obtain ⟨m, hm⟩ : ∃ m : Nat, (if 1 < s then s else 1) = (m : Int) := ⟨(max 1 s).toNat, by split <;> omega⟩
      have HTM : Hid (t = nT i ∧ m = bl8 i ∧ sizeM (m : Int) = bl8 i) := Lib.hid ⟨ht.symm, bl8_of hlt hs hm⟩
      have hm' : max 1 s = (m : Int) := by rw [← hm]; split <;> omega
      have HQ : Hid (∀ W, NmAt W g → W.cell? ⟨g, i * 4 + 1, none⟩ = some (.int .i64 t) ∧ W.cell? ⟨g, i * 4 + 2, none⟩ = some (.int .i64 s)) := Lib.hid (fun W h => by have := h.2 i hlt; rwa [ht, hs] at this)
      clear ht hs
      obtain ⟨ts, ln, f, htw, hct⟩ := HI.out.2.2
      have HT := Lib.hid htw
      have HCT := Lib.hid hct
      clear htw hct
      have d1 := fun (x' : WIn (Below wo.heap.size wo)) => cell_later x'.h q1
      have d2 := fun (x' : WIn (Below wo.heap.size wo)) => cell_later x'.h q2
      clear q1 q2
      go_upto_region 9 with fail
      refine region_tail 12 (Below wo.heap.size wo) (by kernel_rfl) (by kernel_rfl) (Below.refl _ _).drew (fun inst => ?_)
      simp only [List.take_succ_cons, List.take_zero, List.drop_succ_cons, List.drop_zero]
      iterate 12 (go_big_quiet_step (fail))
      refine wpQuiet_nil ?_
      intro wd hbd
      have HT1 := Lib.hid (HT.out.below hbd)
      have HN1 := Lib.hid (And.intro (below_next HI.out.1 HI.out.1.size hbd) (HI.out.2.1.below hbd))
      clear HI HT d1 d2
      go_upto_region 10 with (go_at_call 20; refine (add1_t HT1.out (by omega) t (m : Int)).mono ?_; rintro e w3 ⟨rfl, hb3, hx3, htw3⟩)
      refine at_world (fun W => Hid (Below w.heap.size w W ∧ NmAt W g ∧ Tw W w.heap.size w.heap.size p2 (i + 1) i (addT i ts t) ts (addN i ln (sizeM (m : Int))) ln (addF i f fun _ => 0) f g)) (Lib.hid ⟨HN1.out.1.trans hb3, HN1.out.2.kept hb3.size hx3, htw3⟩) ?_
      clear hb3 hx3 htw3 HT1 HN1 w3 hbd wd
      intro W2 H2
      obtain ⟨q1, q2⟩ := HQ.out W2 H2.out.2.1
      have d1 := fun (x' : WIn (Below W2.heap.size W2)) => cell_later x'.h q1
      have d2 := fun (x' : WIn (Below W2.heap.size W2)) => cell_later x'.h q2
      clear q1 q2
      refine region_tail 12 (Below W2.heap.size W2) (by kernel_rfl) (by kernel_rfl) (Below.refl _ _).drew (fun inst => ?_)
      simp only [List.take_succ_cons, List.take_zero, List.drop_succ_cons, List.drop_zero]
      iterate 12 (go_big_quiet_step (fail))
      refine wpQuiet_nil ?_
      intro wd hbd
      have HT1 := Lib.hid (H2.out.2.2.below hbd)
      have HN1 := Lib.hid (And.intro (below_next H2.out.1 H2.out.1.size hbd) (H2.out.2.1.below hbd))
      clear H2 d1 d2
      go_upto_region 11 with (go_at_call 21; refine (add2_t HT1.out (by omega) t (m : Int)).mono ?_; rintro e w3 ⟨rfl, hb3, hx3, htw3⟩)
      refine at_world (fun W => Hid (BoI vs n w W w.heap.size p2 i 0 g)) (Lib.hid ⟨HN1.out.1.trans hb3, HN1.out.2.kept hb3.size hx3, _, _, _, htw3, HCT.out.add HTM.out.1 HTM.out.2.2⟩) ?_
      clear hb3 hx3 htw3 HT1 HN1 w3 hbd wd
      intro W3 H3
      go_wp2_with fail
      go_loopw [8, 10] (fun kk v wr => ∃ (j k : Nat), j ≤ m ∧ k ≤ n ∧ v = .int .i64 j ∧ kk = .int .i64 k ∧ Hid (k = min n (i + j) ∧ BoI vs n w wr w.heap.size p2 i j g)) (fun _ v _ => m - (intOf v).toNat)
      case atStart => exact ⟨0, k, by omega, hk, rfl, rfl, Lib.hid ⟨HMK.out (by omega), H3.out⟩⟩
      case round =>
        clear H3 hk
        obtain ⟨j, k, hj, hk, rfl, rfl, HJK⟩ := hrel
        have HKJ := Lib.hid HJK.out.1
        have HJ := Lib.hid HJK.out.2
        clear HJK
        obtain ⟨wi, rfl⟩ : ∃ wi : World, wi = wr := ⟨_, rfl⟩
        obtain ⟨q1, q2⟩ := HQ.out wi HJ.out.2.1
        by_cases hjm : j < m
        · have hj0 : (0 : Int) ≤ (j : Int) := by omega
          have hj1 : (j : Int) < (m : Int) := by omega
          have gj : decide ((j : Int) < (m : Int)) = true := decide_eq_true hj1
          by_cases hkn : k < n
          · have hk0 : (0 : Int) ≤ (k : Int) := by omega
            have hk1 : (k : Int) < (n : Int) := by omega
            have gk : decide ((k : Int) < (n : Int)) = true := decide_eq_true hk1
            obtain ⟨a, rfl, ha⟩ := (HA.out.below HJ.out.1).2 (by omega)
            have c0 := ha k hkn
            clear ha
            obtain ⟨v, hv⟩ : ∃ x, vs k = x := ⟨_, rfl⟩
            rw [hv] at c0
            have HV := Lib.hid hv
            clear hv
            obtain ⟨ts', ln', f', htw, hct⟩ := HJ.out.2.2
            have HT := Lib.hid htw
            have HCT := Lib.hid hct
            clear htw hct
            go_upto_region 15 with (go_at_call 22; refine (set1_t HT.out i j v).mono ?_; rintro e w3 ⟨rfl, hb3, hx3, htw3⟩)
            refine at_world (fun W => Hid (Below w.heap.size w W ∧ NmAt W g ∧ Tw W w.heap.size w.heap.size p2 (i + 1) (i + 1) ts' ts' ln' ln' (setM (i + 1) ln' ts' f' i j v) f' g) ∧ W.cell? (a.add k) = some (.int .i64 v)) ⟨Lib.hid ⟨HJ.out.1.trans hb3, HJ.out.2.1.kept hb3.size hx3, htw3⟩, ?_⟩ ?_
            · obtain ⟨a', e', ha'⟩ := (HA.out.below (HJ.out.1.trans hb3)).2 (by omega)
              injection e' with e'
              subst e'
              have := ha' k hkn
              rwa [HV.out] at this
            clear hb3 hx3 htw3 w3 c0 q1 q2 HT
            intro W4 ⟨H4, c0⟩
            have HT := Lib.hid H4.out.2.2
            go_upto_region 16 with (go_at_call 23; refine (set2_t HT.out i j v).mono ?_; rintro e w3 ⟨rfl, hb3, hx3, htw3⟩)
            have H5 : Hid (k + 1 = min n (i + (j + 1)) ∧ BoI vs n w w3 w.heap.size p2 i (j + 1) g) := Lib.hid ⟨by have := HKJ.out; omega, H4.out.1.trans hb3, H4.out.2.1.kept hb3.size hx3, _, _, _, htw3, HCT.out.set (by rw [← HTM.out.2.1]; exact hjm) (by have h1 := HKJ.out; have h2 : k = i + j := (by omega); rw [← h2]; exact HV.out) (by have := HKJ.out; omega)⟩
            clear hb3 hx3 htw3 c0 HT H4 HJ
            go_wp2_with fail
            all_goals exact ⟨⟨j + 1, k + 1, by omega, by omega, by go_num, by go_num, H5⟩, by simp [intOf]; omega⟩
          · have gk : decide ((k : Int) < (n : Int)) = false := decide_eq_false (by omega)
            have gk' : decide (k < n) = false := decide_eq_false hkn
            have HEND : Hid ((i + 1 ≤ 3 → k = min n (i + 1)) ∧ BoO vs n w wi w.heap.size p2 (i + 1) g) := Lib.hid ⟨fun h3 => (by have h1 := HKJ.out; have h2 := HTM.out.2.1; have h4 : bl8 i = 1 := if_neg (by omega); omega), HJ.out.fin (by have h1 := HKJ.out; have h2 := HTM.out.2.1; omega)⟩
            go_wp2_with fail
            all_goals exact ⟨⟨i + 1, k, by omega, hk, by go_num, rfl, HEND⟩, by simp [intOf]; omega⟩
        · have gj : decide ((j : Int) < (m : Int)) = false := decide_eq_false (by omega)
          have gj' : decide (j < m) = false := decide_eq_false hjm
          have HEND : Hid ((i + 1 ≤ 3 → k = min n (i + 1)) ∧ BoO vs n w wi w.heap.size p2 (i + 1) g) := Lib.hid ⟨fun h3 => (by have h1 := HKJ.out; have h2 := HTM.out.2.1; have h4 : bl8 i = 1 := if_neg (by omega); omega), HJ.out.fin (by have h1 := HKJ.out; have h2 := HTM.out.2.1; omega)⟩
          go_wp2_with fail
          all_goals exact ⟨⟨i + 1, k, by omega, hk, by go_num, rfl, HEND⟩, by simp [intOf]; omega⟩
    · obtain rfl : i = 4 := by omega
      clear hi hlt
      go_wp2_with fail
      go_ret3
      obtain ⟨h1, h2, ts, ln, f, h3, h4⟩ := HI.out
      exact ⟨_, _, rfl, h1, h3.getsC h4⟩
end Go.Proofs.Ytlhenpocaagbjaa.C

namespace Go.Proofs.Ytlhenpocaagbjaa.C
open Go.RowKit
set_option linter.unusedSimpArgs false
set_option linter.unusedVariables false
structure MS8 (w W : World) (D : Nat) (v o : NV) (e eo : Env0) : Prop where
  hb : Below w.heap.size w W
  bx : Bx6 W D v o 0 0
  nv : NOK 59 W v e
  no : NOK 59 W o eo
theorem MS8.below {w W W' : World} {D : Nat} {v o : NV} {e eo : Env0} (h : MS8 w W D v o e eo) (hb : Below W.heap.size W W') : MS8 w W' D v o e eo :=
  ⟨below_next h.hb h.hb.size hb, h.bx.below hb, h.nv.below hb, h.no.below hb⟩
/-- Nodes of a fixed text, and what Value says of them in whatever world behind it. -/
def NodV (w : World) (D n : Nat) (v o : NV) (e eo : Env0) (xs : List Ex) (at_ : Int) (gv gt gu ga : Int) (W0 : World) (E : Ending) (w1 : World) : Prop :=
  ∃ ax cx, E = .returned (.slice ax n cx) ∧ MS8 w w1 D v o e eo ∧ Below W0.heap.size W0 w1 ∧ ER w1 ax xs ∧ ∀ W, MS8 w W D v o e eo → ER W ax xs → Calls Try.prog 12 #[.slice ax n cx, .int .i64 at_, .agg #[.pointer v.mp, .slice v.ba v.bl v.bc, .pointer o.mp, .slice o.ba o.bl o.bc, .int .i64 0, .int .i64 0]] W fun E' w2 => E' = .returned (.tuple #[.int .i64 gv, .int .i64 gt, .int .i64 gu, .int .i64 ga]) ∧ Below W.heap.size W w2
theorem nodesV {w W0 : World} {D n : Nat} {v o : NV} {e eo : Env0} (s : ByteArray) (xs : List Ex) (at_ : Int) (gv gt gu ga : Int) (hx : nodesX (s ++ eqB).data.toList = some xs) (hv : vF xs eo 0 0 n e at_ = ⟨gv, gt, gu, ga⟩) (hn : xs.length = n) (hs : s.size ≤ 1000) (h : MS8 w W0 D v o e eo) :
    Calls Try.prog 9 #[.string s] W0 (NodV w D n v o e eo xs at_ gv gt gu ga W0) := by
  refine (nodes_c s W0 (by omega)).mono ?_
  rintro E w' ⟨x, ax, cx, hx', rfl, hE, hb⟩
  have hk := hx'.kids
  obtain rfl := nodesX_R hx hx'
  subst hn
  refine ⟨ax, cx, rfl, h.below hb, hb, hE, fun W h2 hE2 => ?_⟩
  have := value_c _ hk ax cx v o e eo 0 0 at_ W hE2 h2.nv h2.no
  rw [hv] at this
  exact this
/-- Cond of a fixed text, and what Test says of it. -/
def CondV (w : World) (D n : Nat) (v o : NV) (e eo : Env0) (at_ : Int) (b : Bool) (u q : Int) (E P : Int) (W0 : World) (En : Ending) (w1 : World) : Prop :=
  ∃ AC cc, En = .returned (.tuple #[.slice AC n cc, .int .i64 E, .int .i64 P]) ∧ MS8 w w1 D v o e eo ∧ Below W0.heap.size W0 w1 ∧ ∃ cv, CRd w1 AC cv ∧ ∀ W, MS8 w W D v o e eo → CRd W AC cv → Calls Try.prog 16 #[.slice AC n cc, .int .i64 at_, .agg #[.pointer v.mp, .slice v.ba v.bl v.bc, .pointer o.mp, .slice o.ba o.bl o.bc, .int .i64 0, .int .i64 0]] W fun E' w2 => E' = .returned (.tuple #[.bool b, .int .i64 u, .int .i64 q]) ∧ Below W.heap.size W w2
theorem condV {w W0 : World} {D n : Nat} {v o : NV} {e eo : Env0} (s : ByteArray) (cs : List Cd) (E P : Int) (at_ : Int) (b : Bool) (u q : Int) (hx : runC s.data.toList = some (cs, E, P)) (hv : tF cs eo 0 0 e n at_ = (b, u, q)) (hn : cs.length = n) (hat : at_ < (n : Int)) (hs : s.size ≤ 1000) (h : MS8 w W0 D v o e eo) :
    Calls Try.prog 15 #[.string s] W0 (CondV w D n v o e eo at_ b u q E P W0) := by
  refine (r_cond_c s W0 (by omega)).mono ?_
  rintro En w' ⟨cv, A, c, E', P', hx', rfl, hE, hb⟩
  have hk := hx'.kids
  have hl := hx'.len
  have hu := hx'.uniq (runC_R hx)
  injection hu with hu1 hu2
  injection hu2 with hu2 hu3
  subst hu2 hu3
  have hln : cv.length = n := by rw [← csOf_len, hu1, hn]
  subst hln
  refine ⟨A, c, rfl, h.below hb, hb, cv, hE.rd, fun W h2 hE2 => ?_⟩
  have := test_c cv hk hl A c v o e eo 0 0 cv.length at_ W (.inl hat) hE2 h2.nv h2.no
  rw [hu1, hv] at this
  exact this
end Go.Proofs.Ytlhenpocaagbjaa.C

namespace Go.Proofs.Ytlhenpocaagbjaa.C
open Go.RowKit
set_option linter.unusedSimpArgs false
set_option linter.unusedVariables false
theorem conv_byteL (W : World) (x : Int) : (convert 74 9 (.slice (some ⟨W.heap.size, 0, none⟩) 1 1)).run Try.prog (W.alloc (.cells #[.int .u8 x] 5)) = .ok (.string (strOfNums [x])) (W.alloc (.cells #[.int .u8 x] 5)) :=
  run_convert_bytes_arg (P := Try.prog) (W.alloc (.cells #[.int .u8 x] 5)) 74 5 Try.underlying74 Try.underlying5 W.heap.size 0 1 1 [x] rfl (fun i hi => by
    obtain rfl : i = 0 := by omega
    simp [go_sem]) 9 Try.underlying9
set_option maxHeartbeats 1600000 in
theorem digits_c (u : Nat) (hu : u < 4294967296) (w : World) : Calls Try.prog 14 #[.int .i64 (u : Int)] w fun e w' => e = .returned (.string ⟨(digN u).toArray⟩) ∧ Below w.heap.size w w' := by
  have h0 : (0 : Int) ≤ (u : Int) := by omega
  have h0n : ¬ ((u : Int) < 0) := by omega
  have CV := conv_byteL
  have hcat : IntKind.i64.max = 9223372036854775807 := rfl
  have h10 := digN_10 hu
  have hw : IntKind.u64.wrap (u : Int) = (u : Int) := by rw [(show ∀ x : Int, IntKind.u64.wrap x = x % 18446744073709551616 from fun _ => rfl)]; omega
  go_enter Try.func14, Try.ntmps14
  go_wp2_with fail
  go_loopw [3, 4] (fun i s wr => ∃ (v : Nat) (acc : ByteArray), v ≤ u ∧ i = .int .u64 v ∧ s = .string acc ∧ Hid (digN v ++ acc.data.toList = digN u) ∧ Hid (Below w.heap.size w wr)) (fun i _ _ => (intOf i).toNat)
  case atStart => exact ⟨u, ByteArray.empty, Nat.le_refl _, rfl, rfl, Lib.hid (by show digN u ++ [] = _; simp), Lib.hid (Below.refl _ _)⟩
  case round =>
    obtain ⟨v, acc, hv, rfl, rfl, HD, HB⟩ := hrel
    have hsz : (digN v).length + acc.size = (digN u).length := by rw [← HD.out, List.length_append, ← Lib.size_eq]
    have hpos := digN_pos v
    have ha9 : acc.size ≤ 9 := by omega
    obtain ⟨wo, rfl⟩ : ∃ wo : World, wo = wr := ⟨_, rfl⟩
    by_cases h : v < 10
    · have k1 : ((v : Int) < 10) := by omega
      have k2 : ¬ ((10 : Int) ≤ (v : Int)) := by omega
      have k3 : decide ((10 : Int) ≤ (v : Int)) = false := decide_eq_false k2
      have w1 : IntKind.u64.wrap (48 + (v : Int)) = ((48 + v : Nat) : Int) := by rw [(show ∀ x : Int, IntKind.u64.wrap x = x % 18446744073709551616 from fun _ => rfl)]; omega
      obtain ⟨c, hc⟩ : ∃ c : Nat, 48 + v = c := ⟨_, rfl⟩
      rw [hc] at w1
      have w2 : IntKind.u8.wrap (c : Int) = (c : Int) := by rw [(show ∀ x : Int, IntKind.u8.wrap x = x % 256 from fun _ => rfl)]; omega
      have hz1 : (strOfNums [(c : Int)]).size = 1 := strOfNums_size _
      have HF : Hid (strOfNums [(c : Int)] ++ acc = ⟨(digN u).toArray⟩) := Lib.hid (by
        rw [← HD.out, digN_lt h]
        apply ByteArray.ext
        rw [ByteArray.data_append]
        apply Array.ext'
        rw [Array.toList_append, strOfNums_data]
        rw [← hc]
        rfl)
      clear hc hpos hsz HD
      go_wp2_with fail
      go_ret
      exact ⟨by rw [← HF.out]; rfl, HB.out.alloc HB.out.size _⟩
    · have k1 : ((10 : Int) ≤ (v : Int)) := by omega
      have k3 : decide ((10 : Int) ≤ (v : Int)) = true := decide_eq_true k1
      obtain ⟨c, hc⟩ : ∃ c : Nat, 48 + v % 10 = c := ⟨_, rfl⟩
      have m1 : (v : Int).tmod 10 = ((v % 10 : Nat) : Int) := by rw [Int.tmod_eq_emod_of_nonneg (by omega)]; omega
      have m2 : (v : Int).tdiv 10 = ((v / 10 : Nat) : Int) := by rw [Int.tdiv_eq_ediv_of_nonneg (by omega)]; omega
      obtain ⟨r, hr⟩ : ∃ r : Nat, v % 10 = r := ⟨_, rfl⟩
      obtain ⟨q, hq⟩ : ∃ q : Nat, v / 10 = q := ⟨_, rfl⟩
      have w1 : IntKind.u64.wrap (48 + (r : Int)) = (c : Int) := by rw [(show ∀ x : Int, IntKind.u64.wrap x = x % 18446744073709551616 from fun _ => rfl)]; omega
      have w2 : IntKind.u8.wrap (c : Int) = (c : Int) := by rw [(show ∀ x : Int, IntKind.u8.wrap x = x % 256 from fun _ => rfl)]; omega
      have w3 : IntKind.u64.wrap (q : Int) = (q : Int) := by rw [(show ∀ x : Int, IntKind.u64.wrap x = x % 18446744073709551616 from fun _ => rfl)]; omega
      have hz1 : (strOfNums [(c : Int)]).size = 1 := strOfNums_size _
      have HF : Hid (digN q ++ (strOfNums [(c : Int)] ++ acc).data.toList = digN u) := Lib.hid (by
        rw [← HD.out, digN_ge h, ByteArray.data_append, Array.toList_append, strOfNums_data, ← hq, ← hc, List.append_assoc]
        rfl)
      have hqv : q ≤ u := by omega
      have hqv2 : q < v := by omega
      rw [hr] at m1
      rw [hq] at m2
      clear hc hpos hsz HD hr hq
      go_wp2_with fail
      exact ⟨⟨q, _, hqv, rfl, rfl, HF, Lib.hid (HB.out.alloc HB.out.size _)⟩, by simp [intOf]; omega⟩
end Go.Proofs.Ytlhenpocaagbjaa.C

namespace Go.Proofs.Ytlhenpocaagbjaa.C
open Go.RowKit
set_option linter.unusedSimpArgs false
set_option linter.unusedVariables false
def od1 : List Ex := [⟨2, 0, 0, [120], -1, -1, 6⟩, ⟨4, 0, 0, [], 0, -1, 0⟩, ⟨2, 0, 0, [120], -1, -1, 12⟩, ⟨9, 0, 0, [], 1, 2, 10⟩]
theorem od1_x : nodesX ((⟨#[111, 108, 100, 32, 40, 32, 120, 32, 41, 32, 45, 32, 120]⟩ : ByteArray) ++ eqB).data.toList = some od1 := by kernel_rfl
def od2 (k : Int) : List Ex := [⟨1, k, 5, [], -1, -1, 11⟩, ⟨3, 0, 0, [103, 97], 0, -1, 6⟩, ⟨4, 0, 0, [], 1, -1, 0⟩]
def odS (c : List UInt8) : ByteArray := (⟨#[111, 108, 100, 32, 40, 32, 103, 97, 32, 91, 32]⟩ : ByteArray) ++ ⟨c.toArray⟩ ++ ⟨#[32, 93, 32, 41]⟩
theorem od2_x0 : nodesX (odS [UInt8.ofNat (48 + 0)] ++ eqB).data.toList = some (od2 ((0 : Nat) : Int)) := by kernel_rfl
theorem od2_x1 : nodesX (odS [UInt8.ofNat (48 + 1)] ++ eqB).data.toList = some (od2 ((1 : Nat) : Int)) := by kernel_rfl
theorem od2_x2 : nodesX (odS [UInt8.ofNat (48 + 2)] ++ eqB).data.toList = some (od2 ((2 : Nat) : Int)) := by kernel_rfl
theorem od2_x3 : nodesX (odS [UInt8.ofNat (48 + 3)] ++ eqB).data.toList = some (od2 ((3 : Nat) : Int)) := by kernel_rfl
theorem od2_x4 : nodesX (odS [UInt8.ofNat (48 + 4)] ++ eqB).data.toList = some (od2 ((4 : Nat) : Int)) := by kernel_rfl
theorem od2_x5 : nodesX (odS [UInt8.ofNat (48 + 5)] ++ eqB).data.toList = some (od2 ((5 : Nat) : Int)) := by kernel_rfl
theorem od2_x6 : nodesX (odS [UInt8.ofNat (48 + 6)] ++ eqB).data.toList = some (od2 ((6 : Nat) : Int)) := by kernel_rfl
theorem od2_x7 : nodesX (odS [UInt8.ofNat (48 + 7)] ++ eqB).data.toList = some (od2 ((7 : Nat) : Int)) := by kernel_rfl
theorem od2_x8 : nodesX (odS [UInt8.ofNat (48 + 8)] ++ eqB).data.toList = some (od2 ((8 : Nat) : Int)) := by kernel_rfl
theorem od2_x (k : Nat) (hk : k < 9) : nodesX (odS (digN k) ++ eqB).data.toList = some (od2 (k : Int)) := by
  rw [digN_lt (by omega)]
  rcases (by omega : k = 0 ∨ k = 1 ∨ k = 2 ∨ k = 3 ∨ k = 4 ∨ k = 5 ∨ k = 6 ∨ k = 7 ∨ k = 8) with rfl | rfl | rfl | rfl | rfl | rfl | rfl | rfl | rfl
  · exact od2_x0
  · exact od2_x1
  · exact od2_x2
  · exact od2_x3
  · exact od2_x4
  · exact od2_x5
  · exact od2_x6
  · exact od2_x7
  · exact od2_x8
theorem od_size (k : Nat) (hk : k < 9) : (odS (digN k)).size ≤ 1000 := by
  rw [digN_lt (by omega)]
  unfold odS
  rw [ByteArray.size_append, ByteArray.size_append]
  show 11 + 1 + 4 ≤ 1000
  omega
theorem lb_ga : lastB nmBs (nmB [103, 97]) 4 = some ⟨⟨#[103, 97]⟩, 3, 4, 3⟩ := by kernel_rfl
theorem lb_x' : lastB nmBs (nmB [120]) 4 = some ⟨⟨#[120]⟩, 5, 0, 0⟩ := by kernel_rfl
theorem nm_x (get : Int → Int → Int) (n : Ex) (hn : n.nm = [120]) : nameP (envOf get) n 0 = ⟨get 0 0, 5, 0, 0⟩ := by
  unfold nameP
  rw [hn, show (envOf get).bs = nmBs from rfl, show nmBs.length = 4 from rfl, lb_x']
  simp only
  rw [if_neg (show ¬ (envOf get).has = false from by show ¬ true = false; decide), if_neg (by decide)]
  rfl
theorem nm_ga (get : Int → Int → Int) (n : Ex) (hn : n.nm = [103, 97]) (ha : n.at_ = 6) (k : Nat) : nameP (envOf get) n k = if 3 < k then ⟨0, 3, 4, 6⟩ else ⟨get 3 k, 3, 0, 0⟩ := by
  unfold nameP
  rw [hn, show (envOf get).bs = nmBs from rfl, show nmBs.length = 4 from rfl, lb_ga]
  simp only
  rw [if_neg (show ¬ (envOf get).has = false from by show ¬ true = false; decide), ha]
  by_cases h : 3 < k
  · rw [if_pos h, if_pos (by right; show (if (1 : Int) < 4 then (4 : Int) else 1) ≤ (k : Int); rw [if_pos (by decide)]; omega)]
  · rw [if_neg h, if_neg (by rintro (q | q); (· omega); (· have q : (if (1 : Int) < 4 then (4 : Int) else 1) ≤ (k : Int) := q; rw [if_pos (by decide)] at q; omega))]
    rfl
theorem od1_v (gn go : Int → Int → Int) (x y : Int) (hx : gn 0 0 = x) (hy : go 0 0 = y) (x0 : -32768 ≤ x) (x1 : x ≤ 32767) (y0 : -32768 ≤ y) (y1 : y ≤ 32767) : vF od1 (envOf go) 0 0 4 (envOf gn) 3 = ⟨y - x, 5, 0, 0⟩ := by
  have e : vF od1 (envOf go) 0 0 4 (envOf gn) 3 = binP ⟨9, 0, 0, [], 1, 2, 10⟩ (nameP (envOf go) ⟨2, 0, 0, [120], -1, -1, 6⟩ 0) (nameP (envOf gn) ⟨2, 0, 0, [120], -1, -1, 12⟩ 0) := rfl
  rw [e, nm_x _ _ rfl, nm_x _ _ rfl, hx, hy]
  have d : doI 9 5 (wrapT 5 y) (wrapT 5 x) = (y - x, 0) := by
    have w1 : wrapT 5 y = y := by unfold wrapT; simp; omega
    have w2 : wrapT 5 x = x := by unfold wrapT; simp; omega
    rw [w1, w2]
    have i1 : inT 5 y = true := inT5.2 (by omega)
    have i2 : inT 5 (y - x) = true := inT5.2 (by omega)
    have i3 : inT 5 x = true := inT5.2 (by omega)
    unfold doI overI
    simp [i1, i2, i3]
  unfold binP
  rw [if_pos rfl, if_pos rfl]
  unfold twoP
  simp only
  rw [show mixT 9 5 5 = 5 from rfl, if_neg (show ¬ ((9 : Int) = 16 ∨ (9 : Int) = 17) by decide), d]
  rfl
theorem od2_v (gn go : Int → Int → Int) (k : Nat) : vF (od2 (k : Int)) (envOf go) 0 0 3 (envOf gn) 2 = if 3 < k then ⟨0, 3, 4, 6⟩ else ⟨go 3 k, 3, 0, 0⟩ := by
  have e : vF (od2 (k : Int)) (envOf go) 0 0 3 (envOf gn) 2 = elemP (envOf go) ⟨3, 0, 0, [103, 97], 0, -1, 6⟩ ⟨(k : Int), 5, 0, 0⟩ := rfl
  rw [e]
  unfold elemP
  rw [if_pos rfl]
  exact nm_ga go _ rfl rfl k
def odN (x : Int) (j : Nat) : Int := x
def odO (y : Int) (j : Nat) : Int := if j = 0 then y else if j = 1 then 0 else if j = 2 then 0 else if j = 3 then 5 else if j = 4 then 6 else if j = 5 then 7 else 8
theorem odGet (x y : Int) (x0 : -32768 ≤ x) (x1 : x ≤ 32767) (y0 : -32768 ≤ y) (y1 : y ≤ 32767) : getC (odN x) 1 0 0 = x ∧ getC (odO y) 7 0 0 = y ∧ ∀ k : Nat, k ≤ 3 → getC (odO y) 7 3 k = 5 + k := by
  refine ⟨?_, ?_, fun k hk => ?_⟩
  · have e : getC (odN x) 1 0 0 = wrapT 5 x := by simp [getC, cv8, bl8, nT, odN]
    rw [e]; unfold wrapT; simp; omega
  · have e : getC (odO y) 7 0 0 = wrapT 5 y := by simp [getC, cv8, bl8, nT, odO]
    rw [e]; unfold wrapT; simp; omega
  · rcases (by omega : k = 0 ∨ k = 1 ∨ k = 2 ∨ k = 3) with rfl | rfl | rfl | rfl <;> simp [getC, cv8, bl8, nT, odO, wrapT]
set_option maxRecDepth 100000 in
set_option maxHeartbeats 6400000 in
theorem evalOld_c (x y a : Int) (w : World) (hx : -32768 ≤ x ∧ x ≤ 32767) (hy : -32768 ≤ y ∧ y ≤ 32767) (ha : 0 ≤ a ∧ a ≤ 255) :
    Calls Try.prog 4 #[.int .i16 x, .int .i16 y, .int .u8 a] w fun e w' => e = .returned (.bool true) ∧ Below w.heap.size w w' := by
  obtain ⟨hx0, hx1⟩ := hx
  obtain ⟨hy0, hy1⟩ := hy
  obtain ⟨ha0, ha1⟩ := ha
  obtain ⟨t1, t2, t3⟩ := odGet x y hx0 hx1 hy0 hy1
  have ex : IntKind.i64.wrap x = x := IntWalk.i64_in _ (by omega)
  have ey : IntKind.i64.wrap y = y := IntWalk.i64_in _ (by omega)
  have ea : IntKind.i64.wrap a = a := IntWalk.i64_in _ (by omega)
  have exy : IntKind.i64.wrap (y - x) = y - x := IntWalk.i64_in _ (by omega)
  have hk1 := Int.tmod_lt_of_pos a (show (0 : Int) < 9 by decide)
  have hk0 : 0 ≤ a.tmod 9 := Int.tmod_nonneg 9 ha0
  obtain ⟨K, hK⟩ : ∃ K : Nat, a.tmod 9 = (K : Int) := ⟨(a.tmod 9).toNat, by omega⟩
  rw [hK] at hk0 hk1
  have eK : IntKind.i64.wrap (K : Int) = (K : Int) := IntWalk.i64_in _ (by omega)
  have eK5 : IntKind.i64.wrap (5 + (K : Int)) = 5 + (K : Int) := IntWalk.i64_in _ (by omega)
  have hK9 : K < 9 := by omega
  have hm9 : a % 9 = (K : Int) := by rw [← Int.tmod_eq_emod_of_nonneg ha0]; exact hK
  have V1 := Lib.hid (od1_v (getC (odN x) 1) (getC (odO y) 7) x y t1 t2 hx0 hx1 hy0 hy1)
  obtain ⟨bv, bu, bw, v2, hc⟩ : ∃ bv bu bw : Int, vF (od2 (K : Int)) (envOf (getC (odO y) 7)) 0 0 3 (envOf (getC (odN x) 1)) 2 = ⟨bv, 3, bu, bw⟩ ∧ ((3 < K ∧ bv = 0 ∧ bu = 4 ∧ bw = 6) ∨ (K ≤ 3 ∧ bv = 5 + (K : Int) ∧ bu = 0)) := by
    by_cases h : 3 < K
    · exact ⟨0, 4, 6, by rw [od2_v, if_pos h], .inl ⟨h, rfl, rfl, rfl⟩⟩
    · exact ⟨5 + (K : Int), 0, 0, by rw [od2_v, if_neg h, t3 K (by omega)], .inr ⟨by omega, rfl, rfl⟩⟩
  have V2 := Lib.hid v2
  have HC := Lib.hid hc
  clear v2 hc t1 t2 t3
  go_enter Try.func4, Try.ntmps4
  go_upto_region 2 with (go_at_call 10; refine (bothC_c _ 1 1 (odN x) _ ⟨by omega, fun _ => ⟨_, rfl, fun j hj => by obtain rfl : j = 0 := (by omega); simp [go_sem, odN]⟩⟩).mono ?_; rintro e w1 ⟨p1, p2, rfl, hb1, hm1, hm2⟩; have HB1 := Lib.hid (And.intro (below_next ((by repeat' (first | exact Below.refl _ _ | (refine Below.alloc ?_ ?_ _) | (refine Below.setCell ?_ ?_ _) | (refine Below.drew ?_) | (refine below_next ?_ ?_ (by assumption)) | omega | (simp; done) | (simp; omega))) : Below w.heap.size w _) (by first | (simp; done) | (simp; omega)) hb1) hm1); clear hb1 hm1 hm2)
  go_upto_region 3 with (go_at_call 10; refine (bothC_c _ 7 7 (odO y) _ ⟨by omega, fun _ => ⟨_, rfl, fun j hj => by rcases (by omega : j = 0 ∨ j = 1 ∨ j = 2 ∨ j = 3 ∨ j = 4 ∨ j = 5 ∨ j = 6) with rfl | rfl | rfl | rfl | rfl | rfl | rfl <;> simp [go_sem, odO]⟩⟩).mono ?_; rintro e w2 ⟨p3, p4, rfl, hb2, hm3, hm4⟩; have HB2 := Lib.hid (And.intro (below_next ((by repeat' (first | exact Below.refl _ _ | (refine Below.alloc ?_ ?_ _) | (refine Below.setCell ?_ ?_ _) | (refine Below.drew ?_) | (refine below_next ?_ ?_ (by assumption)) | omega | (simp; done) | (simp; omega))) : Below w1.heap.size w1 _) (by first | (simp; done) | (simp; omega)) hb2) hm3); clear hb2 hm3 hm4)
  have NM : ∀ W, Calls Try.prog 11 #[] W fun e w' => e = .returned (.slice (some ⟨W.heap.size, 0, none⟩) 4 4) ∧ BL w' W.heap.size nmBs ∧ Below W.heap.size W w' := fun W => names8_c W
  have HNM := Lib.hid NM
  clear NM
  refine at_world (fun W => Hid (Below w.heap.size w W ∧ GetA W 59 p1 (getC (odN x) 1) ∧ GetA W 59 p3 (getC (odO y) 7))) (Lib.hid ⟨below_next HB1.out.1 HB1.out.1.size HB2.out.1, HB1.out.2.below HB2.out.1, HB2.out.2⟩) ?_
  clear HB1 HB2
  intro w4 HB
  go_upto_region 6 with (first | (go_at_call 11; refine (HNM.out w4).mono ?_; rintro e w5 ⟨rfl, hg3, hb3⟩; have HG3 := Lib.hid (And.intro hg3 hb3); have HNM2 := Lib.hid (HNM.out w5); clear hg3 hb3 HNM) | (go_at_call 11; refine (HNM2.out).mono ?_; rintro e w6 ⟨rfl, hg4, hb4⟩; have HG4 := Lib.hid (And.intro hg4 hb4); clear hg4 hb4 HNM2))
  have HS : Hid (MS8 w (w6.alloc (.cells #[.pointer (some ⟨p1, 0, none⟩), .slice (some ⟨w4.heap.size, 0, none⟩) 4 4, .pointer (some ⟨p3, 0, none⟩), .slice (some ⟨w5.heap.size, 0, none⟩) 4 4, .int .i64 0, .int .i64 0] 33)) w6.heap.size (nvOf p1 w4.heap.size) (nvOf p3 w5.heap.size) (envOf (getC (odN x) 1)) (envOf (getC (odO y) 7))) := Lib.hid (by
    have hb3 := HG3.out.2
    have hb4 := HG4.out.2
    have hb5 : Below w6.heap.size w6 (w6.alloc (.cells #[.pointer (some ⟨p1, 0, none⟩), .slice (some ⟨w4.heap.size, 0, none⟩) 4 4, .pointer (some ⟨p3, 0, none⟩), .slice (some ⟨w5.heap.size, 0, none⟩) 4 4, .int .i64 0, .int .i64 0] 33)) := (by repeat' (first | exact Below.refl _ _ | (refine Below.alloc ?_ ?_ _) | (refine Below.setCell ?_ ?_ _) | (refine Below.drew ?_) | (refine below_next ?_ ?_ (by assumption)) | omega | (simp; done) | (simp; omega)))
    have hb45 := below_next hb4 hb4.size hb5
    have hbw := below_next HB.out.1 HB.out.1.size (below_next hb3 hb3.size hb45)
    have hb35 := below_next hb3 hb3.size hb45
    refine ⟨hbw, ⟨by first | (simp; done) | (simp; omega), by simp [go_sem, nvOf], by simp [go_sem, nvOf], by simp [go_sem, nvOf], by simp [go_sem, nvOf], by simp [go_sem, nvOf], by simp [go_sem, nvOf]⟩, nok_of (HB.out.2.1.below hb35) (HG3.out.1.below hb45), nok_of (HB.out.2.2.below hb35) (HG4.out.1.below hb5)⟩)
  refine at_world (fun W => Hid (MS8 w W w6.heap.size (nvOf p1 w4.heap.size) (nvOf p3 w5.heap.size) (envOf (getC (odN x) 1)) (envOf (getC (odO y) 7)))) HS ?_
  clear HS
  intro W7 HS
  obtain ⟨D, hD⟩ : ∃ z, w6.heap.size = z := ⟨_, rfl⟩
  obtain ⟨g1, hg1'⟩ : ∃ z, w4.heap.size = z := ⟨_, rfl⟩
  obtain ⟨g2, hg2'⟩ : ∃ z, w5.heap.size = z := ⟨_, rfl⟩
  simp only [hD, hg1', hg2'] at HS ⊢
  clear hD hg1' hg2' HG3 HG4 HB
  have HN1 : Calls Try.prog 9 #[.string ⟨#[111, 108, 100, 32, 40, 32, 120, 32, 41, 32, 45, 32, 120]⟩] W7.drew (NodV w D 4 (nvOf p1 g1) (nvOf p3 g2) (envOf (getC (odN x) 1)) (envOf (getC (odO y) 7)) od1 3 (y - x) 5 0 0 W7.drew) := nodesV ⟨#[111, 108, 100, 32, 40, 32, 120, 32, 41, 32, 45, 32, 120]⟩ od1 3 (y - x) 5 0 0 od1_x V1.out rfl (by decide) (HS.out.below (Below.refl _ _).drew)
  have q0 : W7.drew.cell? ⟨D, 0, none⟩ = some (.pointer (some ⟨p1, 0, none⟩)) := HS.out.bx.c0; have q1 : W7.drew.cell? ⟨D, 1, none⟩ = some (.slice (some ⟨g1, 0, none⟩) 4 4) := HS.out.bx.c1; have q2 : W7.drew.cell? ⟨D, 2, none⟩ = some (.pointer (some ⟨p3, 0, none⟩)) := HS.out.bx.c2; have q3 : W7.drew.cell? ⟨D, 3, none⟩ = some (.slice (some ⟨g2, 0, none⟩) 4 4) := HS.out.bx.c3; have q4 : W7.drew.cell? ⟨D, 4, none⟩ = some (.int .i64 0) := HS.out.bx.c4; have q5 : W7.drew.cell? ⟨D, 5, none⟩ = some (.int .i64 0) := HS.out.bx.c5
  go_region_held3 (fun w' => w'.cell? ⟨D, 0, none⟩ = some (.pointer (some ⟨p1, 0, none⟩)) ∧ w'.cell? ⟨D, 1, none⟩ = some (.slice (some ⟨g1, 0, none⟩) 4 4) ∧ w'.cell? ⟨D, 2, none⟩ = some (.pointer (some ⟨p3, 0, none⟩)) ∧ w'.cell? ⟨D, 3, none⟩ = some (.slice (some ⟨g2, 0, none⟩) 4 4) ∧ w'.cell? ⟨D, 4, none⟩ = some (.int .i64 0) ∧ w'.cell? ⟨D, 5, none⟩ = some (.int .i64 0)) (exact ⟨q0, q1, q2, q3, q4, q5⟩) ((first | (go_at_call 9; refine HN1.mono ?_; rintro e w1 ⟨ax, cx, rfl, hms, hb, hE, hV⟩; clear HN1; have HS1 := Lib.hid hms; have HV := Lib.hid (hV _ hms hE); clear hms hb hE hV; replace q0 : w1.cell? ⟨D, 0, none⟩ = some (.pointer (some ⟨p1, 0, none⟩)) := HS1.out.bx.c0; replace q1 : w1.cell? ⟨D, 1, none⟩ = some (.slice (some ⟨g1, 0, none⟩) 4 4) := HS1.out.bx.c1; replace q2 : w1.cell? ⟨D, 2, none⟩ = some (.pointer (some ⟨p3, 0, none⟩)) := HS1.out.bx.c2; replace q3 : w1.cell? ⟨D, 3, none⟩ = some (.slice (some ⟨g2, 0, none⟩) 4 4) := HS1.out.bx.c3; replace q4 : w1.cell? ⟨D, 4, none⟩ = some (.int .i64 0) := HS1.out.bx.c4; replace q5 : w1.cell? ⟨D, 5, none⟩ = some (.int .i64 0) := HS1.out.bx.c5) | (go_at_call 12; refine (HV.out).mono ?_; rintro e w2 ⟨rfl, hb⟩; have HS2 := Lib.hid (HS1.out.below hb); clear hb HV; replace q0 : w2.cell? ⟨D, 0, none⟩ = some (.pointer (some ⟨p1, 0, none⟩)) := HS2.out.bx.c0; replace q1 : w2.cell? ⟨D, 1, none⟩ = some (.slice (some ⟨g1, 0, none⟩) 4 4) := HS2.out.bx.c1; replace q2 : w2.cell? ⟨D, 2, none⟩ = some (.pointer (some ⟨p3, 0, none⟩)) := HS2.out.bx.c2; replace q3 : w2.cell? ⟨D, 3, none⟩ = some (.slice (some ⟨g2, 0, none⟩) 4 4) := HS2.out.bx.c3; replace q4 : w2.cell? ⟨D, 4, none⟩ = some (.int .i64 0) := HS2.out.bx.c4; replace q5 : w2.cell? ⟨D, 5, none⟩ = some (.int .i64 0) := HS2.out.bx.c5)))
  clear HS
  refine at_normal (fun W => Hid (MS8 w W D (nvOf p1 g1) (nvOf p3 g2) (envOf (getC (odN x) 1)) (envOf (getC (odO y) 7)))) HS2 ?_
  clear HS2 HS1 q0 q1 q2 q3 q4 q5
  intro W8 HS
  have HDG : Hid (Calls Try.prog 14 #[.int .i64 (K : Int)] W8 fun e w' => e = .returned (.string ⟨(digN K).toArray⟩) ∧ Below W8.heap.size W8 w') := Lib.hid (digits_c K (by omega) W8)
  have hz : (⟨(digN K).toArray⟩ : ByteArray).size ≤ 10 := by have := digN_10 (show K < 4294967296 by omega); exact this
  have HN2 : Hid (∀ W, MS8 w W D (nvOf p1 g1) (nvOf p3 g2) (envOf (getC (odN x) 1)) (envOf (getC (odO y) 7)) → Calls Try.prog 9 #[.string ((⟨#[111, 108, 100, 32, 40, 32, 103, 97, 32, 91, 32]⟩ : ByteArray) ++ ⟨(digN K).toArray⟩ ++ ⟨#[32, 93, 32, 41]⟩)] W (NodV w D 3 (nvOf p1 g1) (nvOf p3 g2) (envOf (getC (odN x) 1)) (envOf (getC (odO y) 7)) (od2 (K : Int)) 2 bv 3 bu bw W)) := Lib.hid (fun W h => nodesV (odS (digN K)) (od2 (K : Int)) 2 bv 3 bu bw (od2_x K hK9) V2.out rfl (od_size K hK9) h)
  obtain ⟨sd, hsd⟩ : ∃ s : ByteArray, (⟨(digN K).toArray⟩ : ByteArray) = s := ⟨_, rfl⟩
  rw [hsd] at HDG HN2 hz
  clear hsd
  go_upto_region 8 with (first | (go_at_call 14; refine (HDG.out).mono ?_; rintro e w3 ⟨rfl, hb3⟩; have HS3 := Lib.hid (HS.out.below hb3); have HN3 := HN2.out w3 HS3.out; clear hb3 HDG HN2 HS) | (go_at_call 9; refine HN3.mono ?_; rintro e w1 ⟨ax, cx, rfl, hms, hb, hE, hV⟩; clear HN3 HS3; have HS1 := Lib.hid hms; have HE := Lib.hid hE; have HV := Lib.hid (hV _ hms hE); clear hms hb hE hV))
  have q0 : w1.cell? ⟨D, 0, none⟩ = some (.pointer (some ⟨p1, 0, none⟩)) := HS1.out.bx.c0; have q1 : w1.cell? ⟨D, 1, none⟩ = some (.slice (some ⟨g1, 0, none⟩) 4 4) := HS1.out.bx.c1; have q2 : w1.cell? ⟨D, 2, none⟩ = some (.pointer (some ⟨p3, 0, none⟩)) := HS1.out.bx.c2; have q3 : w1.cell? ⟨D, 3, none⟩ = some (.slice (some ⟨g2, 0, none⟩) 4 4) := HS1.out.bx.c3; have q4 : w1.cell? ⟨D, 4, none⟩ = some (.int .i64 0) := HS1.out.bx.c4; have q5 : w1.cell? ⟨D, 5, none⟩ = some (.int .i64 0) := HS1.out.bx.c5
  go_upto_region 12 with (go_at_call 12; refine HV.out.mono ?_; rintro e w2 ⟨rfl, hb⟩; have HS2 := Lib.hid (HS1.out.below hb); have HE2 := Lib.hid (HE.out.below hb); clear hb HV HE HS1 q0 q1 q2 q3 q4 q5)
  obtain ⟨g, hg, hcl⟩ := HE2.out (by unfold od2; simp)
  have hc6 := (hcl 1 ⟨3, 0, 0, [103, 97], 0, -1, 6⟩ rfl).c6
  have hc6' : w2.cell? ⟨g, 13, none⟩ = some (.int .i64 6) := hc6
  subst hg
  clear hcl hc6
  rcases HC.out with ⟨h3, rfl, rfl, rfl⟩ | ⟨h3, rfl, rfl⟩
  · have h3d : decide (3 < K) = true := decide_eq_true h3
    have h3i : decide ((3 : Int) < (K : Int)) = true := decide_eq_true (by omega)
    go_wp2_with (go_at_call 8; refine (awake8_c _).mono ?_; rintro e w5 ⟨rfl, hb5⟩; have HFIN := Lib.hid (below_next HS2.out.hb HS2.out.hb.size hb5); clear hb5)
    go_ret
    exact ⟨rfl, HFIN.out⟩
  · have h3d : decide (3 < K) = false := decide_eq_false (by omega)
    have h3i : decide ((3 : Int) < (K : Int)) = false := decide_eq_false (by omega)
    go_wp2_with (go_at_call 8; refine (awake8_c _).mono ?_; rintro e w5 ⟨rfl, hb5⟩; have HFIN := Lib.hid (below_next HS2.out.hb HS2.out.hb.size hb5); clear hb5)
    go_ret
    exact ⟨rfl, HFIN.out⟩
end Go.Proofs.Ytlhenpocaagbjaa.C

namespace Go.Proofs.Ytlhenpocaagbjaa.evalOld
open Go.ChangeShapes Go.WideShapes Go.ChangeAt Go.RowKit
open Go.ChangeMaps (open_string shut_string)
set_option linter.unusedVariables false
set_option linter.unusedSimpArgs false
theorem own : ownKnob Try.prog.godebug = none := by kernel_rfl
set_option maxRecDepth 100000 in
theorem lifted (os : Os) (started : os.Started) (H : Type) (enc : TypeId × Value → H) :
    ReturnsInHanded {} Try.checked os 4 .any (Rows.evalOldSpec.pre6 enc Try.prog Try.f4 Rows.evalOldRow.domain false) (Rows.evalOldSpec.post enc Try.prog Try.f4 false true false false) := by
  refine returnsInHanded_of_change_sized (C := Try.checked) own started (by kernel_rfl) Try.func4
    (ChangeSpec.witness6 (enc := enc) (C := Try.checked) false ⟨#[], #[.int .i16 0, .int .i16 0, .int .u8 0], []⟩ 8 (by kernel_rfl) (by kernel_rfl) (by kernel_rfl) (by kernel_rfl)) ?_
  intro W base args ds gs before hval0 hW hcnd hsz0 _
  have hsz : (DataW.weightsEach Try.prog (Try.f4.params.toList ++ Rows.evalOldSpec.plain.varTypes Try.prog) (ds ++ gs)).all (· ≤ reachBytes) = true := hsz0
  have hval : ∀ (j : Nat) t v, Try.f4.params[j]? = some t → args[j]? = some v → Value.okWide Try.prog W .any base t v := hval0
  have hW' := hW
  obtain ⟨p, q, hA0, hV, rfl, hfz, hnd⟩ := hW
  have hA : DataW.TrodAll enc Try.prog W 0 (fun _ => true) true Try.f4.params.toList args.toList ds p := hA0
  rw [Try.params4] at hA hval hsz
  obtain ⟨v0, vs0, d0, ds0, p0, q0, hargs, rfl, rfl, h0, r0⟩ := trodAll_cons hA
  obtain ⟨v1, vs1, d1, ds1, p1, q1, rfl, rfl, rfl, h1, r1⟩ := trodAll_cons r0
  obtain ⟨v2, vs2, d2, ds2, p2, q2, rfl, rfl, rfl, h2, r2⟩ := trodAll_cons r1
  obtain ⟨rfl, rfl, rfl⟩ := trodAll_nil r2
  obtain rfl : args = #[v0, v1, v2] := by cases args; simp_all
  obtain ⟨rfl, rfl⟩ := trodVars_none hV
  obtain ⟨a0, rfl, rfl, rfl, w0⟩ := open_int Try.underlying40 (hval 0 40 v0 rfl rfl) h0
  obtain ⟨a1, rfl, rfl, rfl, w1⟩ := open_int Try.underlying40 (hval 1 40 v1 rfl rfl) h1
  obtain ⟨a2, rfl, rfl, rfl, w2⟩ := open_int Try.underlying5 (hval 2 5 v2 rfl rfl) h2
  clear hA0 hval0 hsz0 hsz
  refine (C.evalOld_c a0 a1 a2 W (C.wf_i16 w0) (C.wf_i16 w1) (C.wf_u8 w2)).mono fun e W' ⟨he, bel⟩ => ?_
  subst he
  exact ⟨_, rfl, _, _, _, [], _, [], hW', trodAll_mk1 (shut_bool Try.underlying4 _), (trodAll_cons_mk (shut_int Try.underlying40 w0) (trodAll_cons_mk (shut_int Try.underlying40 w1) (trodAll_cons_mk (shut_int Try.underlying5 w2) trodAll_mk0))), rfl, bel.frame _, fun h => by cases h⟩
theorem over : Rows.evalOldRow.holds Try.pinned (OpenSpec.ofChange Rows.evalOldSpec) :=
  OpenClaim.holds_of_wide 4 Try.f4 rfl rfl rfl rfl rfl rfl rfl ⟨rfl, rfl, rfl, rfl, rfl⟩ rfl rfl rfl rfl rfl (by kernel_rfl) Try.func4 (by kernel_rfl)
    (of_decide_eq_true (by kernel_rfl)) (by unfold Func.isWrapper; first | (rw [if_pos (by decide +kernel)]; kernel_rfl) | (rw [if_neg (by decide +kernel)]; exact ⟨rfl, rfl⟩))
    (fun os started H enc _ => lifted os started H enc)
theorem proved : Rows.EvalOldSaid := over
#print axioms proved
end Go.Proofs.Ytlhenpocaagbjaa.evalOld
namespace Go.Proofs.Ytlhenpocaagbjaa
/-- The row, under a short name, for the claim. -/
theorem evalOld_holds : Rows.EvalOldSaid := evalOld.proved
end Go.Proofs.Ytlhenpocaagbjaa

