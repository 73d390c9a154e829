/- eval.one: walk (printed by gen_ev.py). -/
import Derived.Test.YtnnhdkchdjddkaaEvT
namespace Go.Proofs.Ytnnhdkchdjddkaa.C
open Go.RowKit
set_option linter.unusedSimpArgs false
set_option linter.unusedVariables false
theorem Bx7.other {W : World} {D o : Nat} {x : Ex} (h : Bx7 W D o x) {q : Addr} (hq : q.block ≠ D) (v : Value) : Bx7 (W.setCell q v) D o x := by
  have e : ∀ i, (W.setCell q v).cell? ⟨D, i, none⟩ = W.cell? ⟨D, i, none⟩ := fun i => World.cell?_setCell_other _ _ _ _ (fun x => hq (by rw [x]))
  exact ⟨by simpa using h.lt, (e _).trans h.c0, (e _).trans h.c1, (e _).trans h.c2, (e _).trans h.c3, (e _).trans h.c4, (e _).trans h.c5, (e _).trans h.c6⟩
theorem Bx6.other {W : World} {D : Nat} {n o : NV} {res t : Int} (h : Bx6 W D n o res t) {q : Addr} (hq : q.block ≠ D) (v : Value) : Bx6 (W.setCell q v) D n o res t := by
  have e : ∀ i, (W.setCell q v).cell? ⟨D, i, none⟩ = W.cell? ⟨D, i, none⟩ := fun i => World.cell?_setCell_other _ _ _ _ (fun x => hq (by rw [x]))
  exact ⟨by simpa using h.lt, (e _).trans h.c0, (e _).trans h.c1, (e _).trans h.c2, (e _).trans h.c3, (e _).trans h.c4, (e _).trans h.c5⟩
theorem Bx4.other {W : World} {D : Nat} {g : Gt} (h : Bx4 W D g) {q : Addr} (hq : q.block ≠ D) (v : Value) : Bx4 (W.setCell q v) D g := by
  have e : ∀ i, (W.setCell q v).cell? ⟨D, i, none⟩ = W.cell? ⟨D, i, none⟩ := fun i => World.cell?_setCell_other _ _ _ _ (fun x => hq (by rw [x]))
  have f : ∀ i, (W.setCell q v).frozen? ⟨D, i, none⟩ = W.frozen? ⟨D, i, none⟩ := fun i => by simp [go_sem]
  exact ⟨by simpa using h.lt, (e _).trans h.c0, (e _).trans h.c1, (e _).trans h.c2, (e _).trans h.c3, (f _).trans h.f0, (f _).trans h.f1, (f _).trans h.f2, (f _).trans h.f3⟩
/-- The type anew. -/
theorem Bx4.setT {W : World} {D : Nat} {g : Gt} (h : Bx4 W D g) (t : Int) : Bx4 (W.setCell ⟨D, 1, none⟩ (.int .i64 t)) D ⟨g.v, t, g.ub, g.at_⟩ := by
  have e : ∀ i, i ≠ 1 → (W.setCell ⟨D, 1, none⟩ (.int .i64 t)).cell? ⟨D, i, none⟩ = W.cell? ⟨D, i, none⟩ := fun i hi => World.cell?_setCell_other _ _ _ _ (fun x => hi (by injection x with _ y; exact y.symm))
  have f : ∀ i, (W.setCell ⟨D, 1, none⟩ (.int .i64 t)).frozen? ⟨D, i, none⟩ = W.frozen? ⟨D, i, none⟩ := fun i => by simp [go_sem]
  exact ⟨by simpa using h.lt, (e 0 (by omega)).trans h.c0, World.cell?_setCell_same _ _ _ h.c1, (e 2 (by omega)).trans h.c2, (e 3 (by omega)).trans h.c3, (f _).trans h.f0, (f _).trans h.f1, (f _).trans h.f2, (f _).trans h.f3⟩
/-- Inside one: the kid's value lies at D3, the answer so far at D4. -/
structure OnI (w W : World) (n : Ex) (v o : NV) (res t : Int) (D3 D4 : Nat) (a d : Gt) : Prop where
  hb : Below w.heap.size w W
  b7 : Bx7 W w.heap.size 0 n
  b6 : Bx6 W (w.heap.size + 1) v o res t
  r4 : Bx4 W (w.heap.size + 1 + 1) ⟨0, 0, 0, 0⟩
  a4 : Bx4 W D3 a
  d4 : Bx4 W D4 d
  h3 : w.heap.size + 3 ≤ D3
  h4 : D3 < D4
theorem OnI.below {w W W' : World} {n : Ex} {v o : NV} {res t : Int} {D3 D4 : Nat} {a d : Gt} (h : OnI w W n v o res t D3 D4 a d) (hb : Below W.heap.size W W') : OnI w W' n v o res t D3 D4 a d :=
  ⟨below_next h.hb h.hb.size hb, h.b7.below hb, h.b6.below hb, h.r4.below hb, h.a4.below hb, h.d4.below hb, h.h3, h.h4⟩
theorem OnI.setT {w W : World} {n : Ex} {v o : NV} {res t : Int} {D3 D4 : Nat} {a d : Gt} (h : OnI w W n v o res t D3 D4 a d) (T : Int) : OnI w (W.setCell ⟨D4, 1, none⟩ (.int .i64 T)) n v o res t D3 D4 a ⟨d.v, T, d.ub, d.at_⟩ := by
  have h3 := h.h3
  have h4 := h.h4
  exact ⟨h.hb.setCell (p := ⟨D4, 1, none⟩) (by show w.heap.size ≤ D4; omega) _, h.b7.other (by show D4 ≠ _; omega) _, h.b6.other (by show D4 ≠ _; omega) _, h.r4.other (by show D4 ≠ _; omega) _, h.a4.other (by show D4 ≠ _; omega) _, h.d4.setT T, h.h3, h.h4⟩
set_option maxRecDepth 100000 in
set_option maxHeartbeats 6400000 in
theorem one_elem (n : Ex) (v o : NV) (res t : Int) (e : Env0) (A : Option Addr) (len cc : Nat) (a : Gt) (w : World) (h : NOK 41 w v e) (hk : n.k = 3) (hu : a.ub = 0)
    (IH : ∀ W, Below w.heap.size w W → Calls Try.prog 20 #[.slice A len cc, .int .i64 n.a, envA v o res t] W fun e' w' => e' = .returned (gtV a) ∧ Below W.heap.size W w') :
    Calls Try.prog 29 #[.slice A len cc, exA n, envA v o res t] w fun e' w' => e' = .returned (gtV (elemP e n a)) ∧ Below w.heap.size w w' := by
  have HG : elemP e n a = nameP e n a.v := by unfold elemP; rw [if_pos hu]
  rw [HG]
  clear HG
  obtain ⟨q, hq⟩ : ∃ q, nameP e n a.v = q := ⟨_, rfl⟩
  have NC : ∀ W, Below w.heap.size w W → Calls Try.prog 28 #[exA n, envA v o res t, .int .i64 a.v] W fun e' w' => e' = .returned (.agg #[.int .i64 q.v, .int .i64 q.t, .int .i64 q.ub, .int .i64 q.at_]) ∧ Below W.heap.size W w' := fun W hb => by have := name_c n v o res t a.v e W (h.below hb); rw [hq] at this; exact this
  rw [hq]
  clear hq
  unfold exA envA at NC
  have HK := Lib.hid hk
  clear hk
  (try have HUU := Lib.hid hu)
  (try clear hu)
  obtain ⟨mp, ba, bl, bc⟩ := v
  unfold exA envA
  simp only at NC
  rw [HK.out] at NC
  have IH2 : ∀ W, Below w.heap.size w W → Calls Try.prog 20 #[.slice A len cc, .int .i64 n.a, .agg #[.pointer mp, .slice ba bl bc, .pointer o.mp, .slice o.ba o.bl o.bc, .int .i64 res, .int .i64 t]] W fun e' w' => e' = .returned (.agg #[.int .i64 a.v, .int .i64 a.t, .int .i64 a.ub, .int .i64 a.at_]) ∧ Below W.heap.size W w' := IH
  clear IH
  simp only
  go_enter Try.func29, Try.ntmps29
  go_upto_region 1 with fail
  refine at_world (fun W => NmI w W n ⟨mp, ba, bl, bc⟩ o res t) ⟨(by repeat' (first | exact Below.refl _ _ | (refine Below.alloc ?_ ?_ _) | (refine Below.setCell ?_ ?_ _) | (refine Below.drew ?_) | (refine below_next ?_ ?_ (by assumption)) | omega | (simp; done) | (simp; omega))), ⟨by first | (simp; done) | (simp; omega), by simp [go_sem], by simp [go_sem], by simp [go_sem], by simp [go_sem], by simp [go_sem], by simp [go_sem], by simp [go_sem]⟩, ⟨by first | (simp; done) | (simp; omega), by simp [go_sem], by simp [go_sem], by simp [go_sem], by simp [go_sem], by simp [go_sem], by simp [go_sem]⟩, ⟨by first | (simp; done) | (simp; omega), by simp [go_sem], by simp [go_sem], by simp [go_sem], by simp [go_sem], by simp [go_sem], by simp [go_sem], by simp [go_sem], by simp [go_sem]⟩⟩ ?_
  intro W0 N0
  have N := Lib.hid N0
  have n0 := (N0.b7).c0; have n1 : _ = _ := (N0.b7).box1; have n2 := (N0.b7).box2; have n3 := (N0.b7).box3; have n4 := (N0.b7).box4; have n5 := (N0.b7).box5; have n6 := (N0.b7).box6
  have e0 := (N0.b6).c0; have e1 := (N0.b6).c1; have e2 := (N0.b6).c2; have e3 := (N0.b6).c3; have e4 := (N0.b6).c4; have e5 := (N0.b6).c5
  have hsz0 : w.heap.size + 3 ≤ W0.heap.size := by have := N0.b4.lt; omega
  clear N0
  go_upto_region 2 with (go_at_call 20; refine (IH2 _ N.out.hb).mono ?_; rintro e' w1 ⟨rfl, hb1⟩; have N := Lib.hid (N.out.below hb1); have hs1 := hb1.size; clear hb1 IH2)
  refine at_world (fun W => NmI w W n ⟨mp, ba, bl, bc⟩ o res t ∧ Bx4 W w1.heap.size a ∧ W.heap.size = w1.heap.size + 1) ⟨N.out.below (by repeat' (first | exact Below.refl _ _ | (refine Below.alloc ?_ ?_ _) | (refine Below.setCell ?_ ?_ _) | (refine Below.drew ?_) | (refine below_next ?_ ?_ (by assumption)) | omega | (simp; done) | (simp; omega))), ⟨by first | (simp; done) | (simp; omega), by simp [go_sem], by simp [go_sem], by simp [go_sem], by simp [go_sem], by simp [go_sem], by simp [go_sem], by simp [go_sem], by simp [go_sem]⟩, by simp⟩ ?_
  rintro W2 ⟨N2, A2, hz2⟩
  have N := Lib.hid N2
  have x0 := A2.c0
  have x1 := A2.c1
  have x2 := A2.c2
  have x3 := A2.c3
  go_upto_region 3 with fail
  refine at_world (fun W => OnI w W n ⟨mp, ba, bl, bc⟩ o res t w1.heap.size (w1.heap.size + 1) a ⟨0, 0, a.ub, a.at_⟩) ⟨below_next N2.hb N2.hb.size (by repeat' (first | exact Below.refl _ _ | (refine Below.alloc ?_ ?_ _) | (refine Below.setCell ?_ ?_ _) | (refine Below.drew ?_) | (refine below_next ?_ ?_ (by assumption)) | omega | (simp; done) | (simp; omega))), N2.b7.below (by repeat' (first | exact Below.refl _ _ | (refine Below.alloc ?_ ?_ _) | (refine Below.setCell ?_ ?_ _) | (refine Below.drew ?_) | (refine below_next ?_ ?_ (by assumption)) | omega | (simp; done) | (simp; omega))), N2.b6.below (by repeat' (first | exact Below.refl _ _ | (refine Below.alloc ?_ ?_ _) | (refine Below.setCell ?_ ?_ _) | (refine Below.drew ?_) | (refine below_next ?_ ?_ (by assumption)) | omega | (simp; done) | (simp; omega))), N2.b4.below (by repeat' (first | exact Below.refl _ _ | (refine Below.alloc ?_ ?_ _) | (refine Below.setCell ?_ ?_ _) | (refine Below.drew ?_) | (refine below_next ?_ ?_ (by assumption)) | omega | (simp; done) | (simp; omega))), A2.below (by repeat' (first | exact Below.refl _ _ | (refine Below.alloc ?_ ?_ _) | (refine Below.setCell ?_ ?_ _) | (refine Below.drew ?_) | (refine below_next ?_ ?_ (by assumption)) | omega | (simp; done) | (simp; omega))), by rw [← hz2]; exact ⟨by first | (simp; done) | (simp; omega), by simp [go_sem], by simp [go_sem], by simp [go_sem], by simp [go_sem], by simp [go_sem], by simp [go_sem], by simp [go_sem], by simp [go_sem]⟩, by omega, by omega⟩ ?_
  intro W3 O3
  obtain ⟨D3, hD3⟩ : ∃ x, w1.heap.size = x := ⟨_, rfl⟩
  simp only [hz2, hD3] at O3 ⊢
  clear hD3 hz2 N2 A2 n0 n1 n2 n3 n4 n5 n6 e0 e1 e2 e3 e4 e5 x0 x1 x2 x3 hsz0 hs1
  have O := Lib.hid O3
  have n0 := (O3.b7).c0; have n1 : _ = _ := (O3.b7).box1; have n2 := (O3.b7).box2; have n3 := (O3.b7).box3; have n4 := (O3.b7).box4; have n5 := (O3.b7).box5; have n6 := (O3.b7).box6; have e0 := (O3.b6).c0; have e1 := (O3.b6).c1; have e2 := (O3.b6).c2; have e3 := (O3.b6).c3; have e4 := (O3.b6).c4; have e5 := (O3.b6).c5; have r0 := (O3.r4).c0; have r1 := (O3.r4).c1; have r2 := (O3.r4).c2; have r3 := (O3.r4).c3; have rf0 := (O3.r4).f0; have rf1 := (O3.r4).f1; have rf2 := (O3.r4).f2; have rf3 := (O3.r4).f3; have x0 := (O3.a4).c0; have x1 := (O3.a4).c1; have x2 := (O3.a4).c2; have x3 := (O3.a4).c3; have xf0 := (O3.a4).f0; have xf1 := (O3.a4).f1; have xf2 := (O3.a4).f2; have xf3 := (O3.a4).f3; have y0 := (O3.d4).c0; have y1 := (O3.d4).c1; have y2 := (O3.d4).c2; have y3 := (O3.d4).c3; have yf0 := (O3.d4).f0; have yf1 := (O3.d4).f1; have yf2 := (O3.d4).f2; have yf3 := (O3.d4).f3
  have h3 := O3.h3
  have h4 := O3.h4
  clear O3 N
  rw [HK.out] at n0
  rw [HUU.out] at x2
  go_wp2_with (go_at_call 28; refine (NC _ O.out.hb).mono ?_; rintro e' w5 ⟨rfl, hb5⟩; have O := Lib.hid (O.out.below hb5); have r0 := (O.out.r4).c0; have r1 := (O.out.r4).c1; have r2 := (O.out.r4).c2; have r3 := (O.out.r4).c3; have rf0 := (O.out.r4).f0; have rf1 := (O.out.r4).f1; have rf2 := (O.out.r4).f2; have rf3 := (O.out.r4).f3; clear hb5 NC)
  exact bodyPost_ret (v := gtV q) (by simp [results, Try.results29, go_sem, r0, r1, r2, r3, rf0, rf1, rf2, rf3, gtV]) rfl ⟨rfl, set4 O.out.hb (by omega) _ _ _ _⟩
set_option maxRecDepth 100000 in
set_option maxHeartbeats 6400000 in
theorem one_elem2 (n : Ex) (v o : NV) (res t : Int) (e : Env0) (A : Option Addr) (len cc : Nat) (a : Gt) (w : World) (h : NOK 41 w v e) (hk : n.k = 3) (hu : a.ub ≠ 0)
    (IH : ∀ W, Below w.heap.size w W → Calls Try.prog 20 #[.slice A len cc, .int .i64 n.a, envA v o res t] W fun e' w' => e' = .returned (gtV a) ∧ Below W.heap.size W w') :
    Calls Try.prog 29 #[.slice A len cc, exA n, envA v o res t] w fun e' w' => e' = .returned (gtV (elemP e n a)) ∧ Below w.heap.size w w' := by
  have HG : elemP e n a = ⟨0, nmTy e n, a.ub, a.at_⟩ := by unfold elemP; rw [if_neg hu]
  rw [HG]
  clear HG
  have g0 : (a.ub == 0) = false := by rw [beq_eq_false_iff_ne]; exact hu
  obtain ⟨h1, h2, hmem⟩ := h
  obtain ⟨T, hT⟩ : ∃ x, nmTy e n = x := ⟨_, rfl⟩
  obtain ⟨lb, hlb⟩ : ∃ x, lastB e.bs (nmB n.nm) e.bs.length = x := ⟨_, rfl⟩
  have HB : ∀ W, Below w.heap.size w W → Calls Try.prog 40 #[.slice v.ba v.bl v.bc, .string (nmB n.nm)] W fun e' w' => e' = .returned (bindV lb) ∧ Below W.heap.size W w' := fun W hb => (bind_c v.ba v.bl v.bc e.bs (nmB n.nm) W (h1.below hb) h2).mono (fun e' w' hh => ⟨by rw [hh.1, hlb, bindV_eq], hh.2⟩)
  have HT : (lb = none ∧ T = 5) ∨ (∃ b, lb = some b ∧ ((v.mp = none ∧ T = 5) ∨ (∃ p, v.mp = some ⟨p, 0, none⟩ ∧ T = b.t))) := by
    cases lb with
    | none => exact .inl ⟨rfl, by rw [← hT]; unfold nmTy; rw [hlb]⟩
    | some b =>
      refine .inr ⟨b, rfl, ?_⟩
      rcases hmem with ⟨m1, m2⟩ | ⟨p, m1, m2, _⟩
      · exact .inl ⟨m1, by rw [← hT]; unfold nmTy; rw [hlb]; simp [m2]⟩
      · exact .inr ⟨p, m1, by rw [← hT]; unfold nmTy; rw [hlb]; simp [m2]⟩
  rw [hT]
  clear hT hlb hmem h1 hu
  rcases HT with ⟨rfl, rfl⟩ | ⟨b, rfl, HT⟩
  · have HK := Lib.hid hk
    clear hk
    (try have HUU := Lib.hid hu)
    (try clear hu)
    obtain ⟨mp, ba, bl, bc⟩ := v
    unfold exA envA
    simp only [bindV] at HB
    have IH2 : ∀ W, Below w.heap.size w W → Calls Try.prog 20 #[.slice A len cc, .int .i64 n.a, .agg #[.pointer mp, .slice ba bl bc, .pointer o.mp, .slice o.ba o.bl o.bc, .int .i64 res, .int .i64 t]] W fun e' w' => e' = .returned (.agg #[.int .i64 a.v, .int .i64 a.t, .int .i64 a.ub, .int .i64 a.at_]) ∧ Below W.heap.size W w' := IH
    clear IH
    simp only
    go_enter Try.func29, Try.ntmps29
    go_upto_region 1 with fail
    refine at_world (fun W => NmI w W n ⟨mp, ba, bl, bc⟩ o res t) ⟨(by repeat' (first | exact Below.refl _ _ | (refine Below.alloc ?_ ?_ _) | (refine Below.setCell ?_ ?_ _) | (refine Below.drew ?_) | (refine below_next ?_ ?_ (by assumption)) | omega | (simp; done) | (simp; omega))), ⟨by first | (simp; done) | (simp; omega), by simp [go_sem], by simp [go_sem], by simp [go_sem], by simp [go_sem], by simp [go_sem], by simp [go_sem], by simp [go_sem]⟩, ⟨by first | (simp; done) | (simp; omega), by simp [go_sem], by simp [go_sem], by simp [go_sem], by simp [go_sem], by simp [go_sem], by simp [go_sem]⟩, ⟨by first | (simp; done) | (simp; omega), by simp [go_sem], by simp [go_sem], by simp [go_sem], by simp [go_sem], by simp [go_sem], by simp [go_sem], by simp [go_sem], by simp [go_sem]⟩⟩ ?_
    intro W0 N0
    have N := Lib.hid N0
    have n0 := (N0.b7).c0; have n1 : _ = _ := (N0.b7).box1; have n2 := (N0.b7).box2; have n3 := (N0.b7).box3; have n4 := (N0.b7).box4; have n5 := (N0.b7).box5; have n6 := (N0.b7).box6
    have e0 := (N0.b6).c0; have e1 := (N0.b6).c1; have e2 := (N0.b6).c2; have e3 := (N0.b6).c3; have e4 := (N0.b6).c4; have e5 := (N0.b6).c5
    have hsz0 : w.heap.size + 3 ≤ W0.heap.size := by have := N0.b4.lt; omega
    clear N0
    go_upto_region 2 with (go_at_call 20; refine (IH2 _ N.out.hb).mono ?_; rintro e' w1 ⟨rfl, hb1⟩; have N := Lib.hid (N.out.below hb1); have hs1 := hb1.size; clear hb1 IH2)
    refine at_world (fun W => NmI w W n ⟨mp, ba, bl, bc⟩ o res t ∧ Bx4 W w1.heap.size a ∧ W.heap.size = w1.heap.size + 1) ⟨N.out.below (by repeat' (first | exact Below.refl _ _ | (refine Below.alloc ?_ ?_ _) | (refine Below.setCell ?_ ?_ _) | (refine Below.drew ?_) | (refine below_next ?_ ?_ (by assumption)) | omega | (simp; done) | (simp; omega))), ⟨by first | (simp; done) | (simp; omega), by simp [go_sem], by simp [go_sem], by simp [go_sem], by simp [go_sem], by simp [go_sem], by simp [go_sem], by simp [go_sem], by simp [go_sem]⟩, by simp⟩ ?_
    rintro W2 ⟨N2, A2, hz2⟩
    have N := Lib.hid N2
    have x0 := A2.c0
    have x1 := A2.c1
    have x2 := A2.c2
    have x3 := A2.c3
    go_upto_region 3 with fail
    refine at_world (fun W => OnI w W n ⟨mp, ba, bl, bc⟩ o res t w1.heap.size (w1.heap.size + 1) a ⟨0, 0, a.ub, a.at_⟩) ⟨below_next N2.hb N2.hb.size (by repeat' (first | exact Below.refl _ _ | (refine Below.alloc ?_ ?_ _) | (refine Below.setCell ?_ ?_ _) | (refine Below.drew ?_) | (refine below_next ?_ ?_ (by assumption)) | omega | (simp; done) | (simp; omega))), N2.b7.below (by repeat' (first | exact Below.refl _ _ | (refine Below.alloc ?_ ?_ _) | (refine Below.setCell ?_ ?_ _) | (refine Below.drew ?_) | (refine below_next ?_ ?_ (by assumption)) | omega | (simp; done) | (simp; omega))), N2.b6.below (by repeat' (first | exact Below.refl _ _ | (refine Below.alloc ?_ ?_ _) | (refine Below.setCell ?_ ?_ _) | (refine Below.drew ?_) | (refine below_next ?_ ?_ (by assumption)) | omega | (simp; done) | (simp; omega))), N2.b4.below (by repeat' (first | exact Below.refl _ _ | (refine Below.alloc ?_ ?_ _) | (refine Below.setCell ?_ ?_ _) | (refine Below.drew ?_) | (refine below_next ?_ ?_ (by assumption)) | omega | (simp; done) | (simp; omega))), A2.below (by repeat' (first | exact Below.refl _ _ | (refine Below.alloc ?_ ?_ _) | (refine Below.setCell ?_ ?_ _) | (refine Below.drew ?_) | (refine below_next ?_ ?_ (by assumption)) | omega | (simp; done) | (simp; omega))), by rw [← hz2]; exact ⟨by first | (simp; done) | (simp; omega), by simp [go_sem], by simp [go_sem], by simp [go_sem], by simp [go_sem], by simp [go_sem], by simp [go_sem], by simp [go_sem], by simp [go_sem]⟩, by omega, by omega⟩ ?_
    intro W3 O3
    obtain ⟨D3, hD3⟩ : ∃ x, w1.heap.size = x := ⟨_, rfl⟩
    simp only [hz2, hD3] at O3 ⊢
    clear hD3 hz2 N2 A2 n0 n1 n2 n3 n4 n5 n6 e0 e1 e2 e3 e4 e5 x0 x1 x2 x3 hsz0 hs1
    have O := Lib.hid O3
    have n0 := (O3.b7).c0; have n1 : _ = _ := (O3.b7).box1; have n2 := (O3.b7).box2; have n3 := (O3.b7).box3; have n4 := (O3.b7).box4; have n5 := (O3.b7).box5; have n6 := (O3.b7).box6; have e0 := (O3.b6).c0; have e1 := (O3.b6).c1; have e2 := (O3.b6).c2; have e3 := (O3.b6).c3; have e4 := (O3.b6).c4; have e5 := (O3.b6).c5; have r0 := (O3.r4).c0; have r1 := (O3.r4).c1; have r2 := (O3.r4).c2; have r3 := (O3.r4).c3; have rf0 := (O3.r4).f0; have rf1 := (O3.r4).f1; have rf2 := (O3.r4).f2; have rf3 := (O3.r4).f3; have x0 := (O3.a4).c0; have x1 := (O3.a4).c1; have x2 := (O3.a4).c2; have x3 := (O3.a4).c3; have xf0 := (O3.a4).f0; have xf1 := (O3.a4).f1; have xf2 := (O3.a4).f2; have xf3 := (O3.a4).f3; have y0 := (O3.d4).c0; have y1 := (O3.d4).c1; have y2 := (O3.d4).c2; have y3 := (O3.d4).c3; have yf0 := (O3.d4).f0; have yf1 := (O3.d4).f1; have yf2 := (O3.d4).f2; have yf3 := (O3.d4).f3
    have h3 := O3.h3
    have h4 := O3.h4
    clear O3 N
    rw [HK.out] at n0
    go_upto_region 8 with fail
    refine at_world (fun W => OnI w W n ⟨mp, ba, bl, bc⟩ o res t D3 (D3 + 1) a ⟨0, 5, a.ub, a.at_⟩) (O.out.setT 5) ?_
    intro W4 O4
    clear n0 n1 n2 n3 n4 n5 n6 e0 e1 e2 e3 e4 e5 r0 r1 r2 r3 rf0 rf1 rf2 rf3 x0 x1 x2 x3 xf0 xf1 xf2 xf3 y0 y1 y2 y3 yf0 yf1 yf2 yf3 O
    have O := Lib.hid O4
    have n0 := (O4.b7).c0; have n1 : _ = _ := (O4.b7).box1; have n2 := (O4.b7).box2; have n3 := (O4.b7).box3; have n4 := (O4.b7).box4; have n5 := (O4.b7).box5; have n6 := (O4.b7).box6; have e0 := (O4.b6).c0; have e1 := (O4.b6).c1; have e2 := (O4.b6).c2; have e3 := (O4.b6).c3; have e4 := (O4.b6).c4; have e5 := (O4.b6).c5; have r0 := (O4.r4).c0; have r1 := (O4.r4).c1; have r2 := (O4.r4).c2; have r3 := (O4.r4).c3; have rf0 := (O4.r4).f0; have rf1 := (O4.r4).f1; have rf2 := (O4.r4).f2; have rf3 := (O4.r4).f3; have x0 := (O4.a4).c0; have x1 := (O4.a4).c1; have x2 := (O4.a4).c2; have x3 := (O4.a4).c3; have xf0 := (O4.a4).f0; have xf1 := (O4.a4).f1; have xf2 := (O4.a4).f2; have xf3 := (O4.a4).f3; have y0 := (O4.d4).c0; have y1 := (O4.d4).c1; have y2 := (O4.d4).c2; have y3 := (O4.d4).c3; have yf0 := (O4.d4).f0; have yf1 := (O4.d4).f1; have yf2 := (O4.d4).f2; have yf3 := (O4.d4).f3
    clear O4
    go_upto_region 9 with (go_at_call 40; refine (HB _ O.out.hb).mono ?_; rintro e' w6 ⟨rfl, hb6⟩; have O := Lib.hid (O.out.below hb6); clear hb6 HB)
    clear n0 n1 n2 n3 n4 n5 n6 e0 e1 e2 e3 e4 e5 r0 r1 r2 r3 rf0 rf1 rf2 rf3 x0 x1 x2 x3 xf0 xf1 xf2 xf3 y0 y1 y2 y3 yf0 yf1 yf2 yf3
    refine at_world (fun W => OnI w W n ⟨mp, ba, bl, bc⟩ o res t D3 (D3 + 1) a ⟨0, 5, a.ub, a.at_⟩) (O.out.below (by repeat' (first | exact Below.refl _ _ | (refine Below.alloc ?_ ?_ _) | (refine Below.setCell ?_ ?_ _) | (refine Below.drew ?_) | (refine below_next ?_ ?_ (by assumption)) | omega | (simp; done) | (simp; omega)))) ?_
    intro W5 O5
    have O := Lib.hid O5
    have n0 := (O5.b7).c0; have n1 : _ = _ := (O5.b7).box1; have n2 := (O5.b7).box2; have n3 := (O5.b7).box3; have n4 := (O5.b7).box4; have n5 := (O5.b7).box5; have n6 := (O5.b7).box6; have e0 := (O5.b6).c0; have e1 := (O5.b6).c1; have e2 := (O5.b6).c2; have e3 := (O5.b6).c3; have e4 := (O5.b6).c4; have e5 := (O5.b6).c5; have r0 := (O5.r4).c0; have r1 := (O5.r4).c1; have r2 := (O5.r4).c2; have r3 := (O5.r4).c3; have rf0 := (O5.r4).f0; have rf1 := (O5.r4).f1; have rf2 := (O5.r4).f2; have rf3 := (O5.r4).f3; have x0 := (O5.a4).c0; have x1 := (O5.a4).c1; have x2 := (O5.a4).c2; have x3 := (O5.a4).c3; have xf0 := (O5.a4).f0; have xf1 := (O5.a4).f1; have xf2 := (O5.a4).f2; have xf3 := (O5.a4).f3; have y0 := (O5.d4).c0; have y1 := (O5.d4).c1; have y2 := (O5.d4).c2; have y3 := (O5.d4).c3; have yf0 := (O5.d4).f0; have yf1 := (O5.d4).f1; have yf2 := (O5.d4).f2; have yf3 := (O5.d4).f3
    clear O5
    go_wp2_with fail
    exact bodyPost_ret (v := gtV ⟨0, 5, a.ub, a.at_⟩) (by simp [results, Try.results29, go_sem, r0, r1, r2, r3, rf0, rf1, rf2, rf3, gtV]) rfl ⟨rfl, set4 O.out.hb (by omega) _ _ _ _⟩
  · have HK := Lib.hid hk
    clear hk
    (try have HUU := Lib.hid hu)
    (try clear hu)
    obtain ⟨mp, ba, bl, bc⟩ := v
    unfold exA envA
    simp only [bindV] at HB HT
    have IH2 : ∀ W, Below w.heap.size w W → Calls Try.prog 20 #[.slice A len cc, .int .i64 n.a, .agg #[.pointer mp, .slice ba bl bc, .pointer o.mp, .slice o.ba o.bl o.bc, .int .i64 res, .int .i64 t]] W fun e' w' => e' = .returned (.agg #[.int .i64 a.v, .int .i64 a.t, .int .i64 a.ub, .int .i64 a.at_]) ∧ Below W.heap.size W w' := IH
    clear IH
    simp only
    go_enter Try.func29, Try.ntmps29
    go_upto_region 1 with fail
    refine at_world (fun W => NmI w W n ⟨mp, ba, bl, bc⟩ o res t) ⟨(by repeat' (first | exact Below.refl _ _ | (refine Below.alloc ?_ ?_ _) | (refine Below.setCell ?_ ?_ _) | (refine Below.drew ?_) | (refine below_next ?_ ?_ (by assumption)) | omega | (simp; done) | (simp; omega))), ⟨by first | (simp; done) | (simp; omega), by simp [go_sem], by simp [go_sem], by simp [go_sem], by simp [go_sem], by simp [go_sem], by simp [go_sem], by simp [go_sem]⟩, ⟨by first | (simp; done) | (simp; omega), by simp [go_sem], by simp [go_sem], by simp [go_sem], by simp [go_sem], by simp [go_sem], by simp [go_sem]⟩, ⟨by first | (simp; done) | (simp; omega), by simp [go_sem], by simp [go_sem], by simp [go_sem], by simp [go_sem], by simp [go_sem], by simp [go_sem], by simp [go_sem], by simp [go_sem]⟩⟩ ?_
    intro W0 N0
    have N := Lib.hid N0
    have n0 := (N0.b7).c0; have n1 : _ = _ := (N0.b7).box1; have n2 := (N0.b7).box2; have n3 := (N0.b7).box3; have n4 := (N0.b7).box4; have n5 := (N0.b7).box5; have n6 := (N0.b7).box6
    have e0 := (N0.b6).c0; have e1 := (N0.b6).c1; have e2 := (N0.b6).c2; have e3 := (N0.b6).c3; have e4 := (N0.b6).c4; have e5 := (N0.b6).c5
    have hsz0 : w.heap.size + 3 ≤ W0.heap.size := by have := N0.b4.lt; omega
    clear N0
    go_upto_region 2 with (go_at_call 20; refine (IH2 _ N.out.hb).mono ?_; rintro e' w1 ⟨rfl, hb1⟩; have N := Lib.hid (N.out.below hb1); have hs1 := hb1.size; clear hb1 IH2)
    refine at_world (fun W => NmI w W n ⟨mp, ba, bl, bc⟩ o res t ∧ Bx4 W w1.heap.size a ∧ W.heap.size = w1.heap.size + 1) ⟨N.out.below (by repeat' (first | exact Below.refl _ _ | (refine Below.alloc ?_ ?_ _) | (refine Below.setCell ?_ ?_ _) | (refine Below.drew ?_) | (refine below_next ?_ ?_ (by assumption)) | omega | (simp; done) | (simp; omega))), ⟨by first | (simp; done) | (simp; omega), by simp [go_sem], by simp [go_sem], by simp [go_sem], by simp [go_sem], by simp [go_sem], by simp [go_sem], by simp [go_sem], by simp [go_sem]⟩, by simp⟩ ?_
    rintro W2 ⟨N2, A2, hz2⟩
    have N := Lib.hid N2
    have x0 := A2.c0
    have x1 := A2.c1
    have x2 := A2.c2
    have x3 := A2.c3
    go_upto_region 3 with fail
    refine at_world (fun W => OnI w W n ⟨mp, ba, bl, bc⟩ o res t w1.heap.size (w1.heap.size + 1) a ⟨0, 0, a.ub, a.at_⟩) ⟨below_next N2.hb N2.hb.size (by repeat' (first | exact Below.refl _ _ | (refine Below.alloc ?_ ?_ _) | (refine Below.setCell ?_ ?_ _) | (refine Below.drew ?_) | (refine below_next ?_ ?_ (by assumption)) | omega | (simp; done) | (simp; omega))), N2.b7.below (by repeat' (first | exact Below.refl _ _ | (refine Below.alloc ?_ ?_ _) | (refine Below.setCell ?_ ?_ _) | (refine Below.drew ?_) | (refine below_next ?_ ?_ (by assumption)) | omega | (simp; done) | (simp; omega))), N2.b6.below (by repeat' (first | exact Below.refl _ _ | (refine Below.alloc ?_ ?_ _) | (refine Below.setCell ?_ ?_ _) | (refine Below.drew ?_) | (refine below_next ?_ ?_ (by assumption)) | omega | (simp; done) | (simp; omega))), N2.b4.below (by repeat' (first | exact Below.refl _ _ | (refine Below.alloc ?_ ?_ _) | (refine Below.setCell ?_ ?_ _) | (refine Below.drew ?_) | (refine below_next ?_ ?_ (by assumption)) | omega | (simp; done) | (simp; omega))), A2.below (by repeat' (first | exact Below.refl _ _ | (refine Below.alloc ?_ ?_ _) | (refine Below.setCell ?_ ?_ _) | (refine Below.drew ?_) | (refine below_next ?_ ?_ (by assumption)) | omega | (simp; done) | (simp; omega))), by rw [← hz2]; exact ⟨by first | (simp; done) | (simp; omega), by simp [go_sem], by simp [go_sem], by simp [go_sem], by simp [go_sem], by simp [go_sem], by simp [go_sem], by simp [go_sem], by simp [go_sem]⟩, by omega, by omega⟩ ?_
    intro W3 O3
    obtain ⟨D3, hD3⟩ : ∃ x, w1.heap.size = x := ⟨_, rfl⟩
    simp only [hz2, hD3] at O3 ⊢
    clear hD3 hz2 N2 A2 n0 n1 n2 n3 n4 n5 n6 e0 e1 e2 e3 e4 e5 x0 x1 x2 x3 hsz0 hs1
    have O := Lib.hid O3
    have n0 := (O3.b7).c0; have n1 : _ = _ := (O3.b7).box1; have n2 := (O3.b7).box2; have n3 := (O3.b7).box3; have n4 := (O3.b7).box4; have n5 := (O3.b7).box5; have n6 := (O3.b7).box6; have e0 := (O3.b6).c0; have e1 := (O3.b6).c1; have e2 := (O3.b6).c2; have e3 := (O3.b6).c3; have e4 := (O3.b6).c4; have e5 := (O3.b6).c5; have r0 := (O3.r4).c0; have r1 := (O3.r4).c1; have r2 := (O3.r4).c2; have r3 := (O3.r4).c3; have rf0 := (O3.r4).f0; have rf1 := (O3.r4).f1; have rf2 := (O3.r4).f2; have rf3 := (O3.r4).f3; have x0 := (O3.a4).c0; have x1 := (O3.a4).c1; have x2 := (O3.a4).c2; have x3 := (O3.a4).c3; have xf0 := (O3.a4).f0; have xf1 := (O3.a4).f1; have xf2 := (O3.a4).f2; have xf3 := (O3.a4).f3; have y0 := (O3.d4).c0; have y1 := (O3.d4).c1; have y2 := (O3.d4).c2; have y3 := (O3.d4).c3; have yf0 := (O3.d4).f0; have yf1 := (O3.d4).f1; have yf2 := (O3.d4).f2; have yf3 := (O3.d4).f3
    have h3 := O3.h3
    have h4 := O3.h4
    clear O3 N
    rw [HK.out] at n0
    go_upto_region 8 with fail
    refine at_world (fun W => OnI w W n ⟨mp, ba, bl, bc⟩ o res t D3 (D3 + 1) a ⟨0, 5, a.ub, a.at_⟩) (O.out.setT 5) ?_
    intro W4 O4
    clear n0 n1 n2 n3 n4 n5 n6 e0 e1 e2 e3 e4 e5 r0 r1 r2 r3 rf0 rf1 rf2 rf3 x0 x1 x2 x3 xf0 xf1 xf2 xf3 y0 y1 y2 y3 yf0 yf1 yf2 yf3 O
    have O := Lib.hid O4
    have n0 := (O4.b7).c0; have n1 : _ = _ := (O4.b7).box1; have n2 := (O4.b7).box2; have n3 := (O4.b7).box3; have n4 := (O4.b7).box4; have n5 := (O4.b7).box5; have n6 := (O4.b7).box6; have e0 := (O4.b6).c0; have e1 := (O4.b6).c1; have e2 := (O4.b6).c2; have e3 := (O4.b6).c3; have e4 := (O4.b6).c4; have e5 := (O4.b6).c5; have r0 := (O4.r4).c0; have r1 := (O4.r4).c1; have r2 := (O4.r4).c2; have r3 := (O4.r4).c3; have rf0 := (O4.r4).f0; have rf1 := (O4.r4).f1; have rf2 := (O4.r4).f2; have rf3 := (O4.r4).f3; have x0 := (O4.a4).c0; have x1 := (O4.a4).c1; have x2 := (O4.a4).c2; have x3 := (O4.a4).c3; have xf0 := (O4.a4).f0; have xf1 := (O4.a4).f1; have xf2 := (O4.a4).f2; have xf3 := (O4.a4).f3; have y0 := (O4.d4).c0; have y1 := (O4.d4).c1; have y2 := (O4.d4).c2; have y3 := (O4.d4).c3; have yf0 := (O4.d4).f0; have yf1 := (O4.d4).f1; have yf2 := (O4.d4).f2; have yf3 := (O4.d4).f3
    clear O4
    go_upto_region 9 with (go_at_call 40; refine (HB _ O.out.hb).mono ?_; rintro e' w6 ⟨rfl, hb6⟩; have O := Lib.hid (O.out.below hb6); clear hb6 HB)
    clear n0 n1 n2 n3 n4 n5 n6 e0 e1 e2 e3 e4 e5 r0 r1 r2 r3 rf0 rf1 rf2 rf3 x0 x1 x2 x3 xf0 xf1 xf2 xf3 y0 y1 y2 y3 yf0 yf1 yf2 yf3
    refine at_world (fun W => OnI w W n ⟨mp, ba, bl, bc⟩ o res t D3 (D3 + 1) a ⟨0, 5, a.ub, a.at_⟩ ∧ BxB W w6.heap.size b) ⟨O.out.below (by repeat' (first | exact Below.refl _ _ | (refine Below.alloc ?_ ?_ _) | (refine Below.setCell ?_ ?_ _) | (refine Below.drew ?_) | (refine below_next ?_ ?_ (by assumption)) | omega | (simp; done) | (simp; omega))), ⟨by first | (simp; done) | (simp; omega), by simp [go_sem], by simp [go_sem], by simp [go_sem]⟩⟩ ?_
    rintro W5 ⟨O5, B5⟩
    obtain ⟨D6, hD6⟩ : ∃ x, w6.heap.size = x := ⟨_, rfl⟩
    simp only [hD6] at B5 ⊢
    clear hD6
    have O := Lib.hid O5
    have n0 := (O5.b7).c0; have n1 : _ = _ := (O5.b7).box1; have n2 := (O5.b7).box2; have n3 := (O5.b7).box3; have n4 := (O5.b7).box4; have n5 := (O5.b7).box5; have n6 := (O5.b7).box6; have e0 := (O5.b6).c0; have e1 := (O5.b6).c1; have e2 := (O5.b6).c2; have e3 := (O5.b6).c3; have e4 := (O5.b6).c4; have e5 := (O5.b6).c5; have r0 := (O5.r4).c0; have r1 := (O5.r4).c1; have r2 := (O5.r4).c2; have r3 := (O5.r4).c3; have rf0 := (O5.r4).f0; have rf1 := (O5.r4).f1; have rf2 := (O5.r4).f2; have rf3 := (O5.r4).f3; have x0 := (O5.a4).c0; have x1 := (O5.a4).c1; have x2 := (O5.a4).c2; have x3 := (O5.a4).c3; have xf0 := (O5.a4).f0; have xf1 := (O5.a4).f1; have xf2 := (O5.a4).f2; have xf3 := (O5.a4).f3; have y0 := (O5.d4).c0; have y1 := (O5.d4).c1; have y2 := (O5.d4).c2; have y3 := (O5.d4).c3; have yf0 := (O5.d4).f0; have yf1 := (O5.d4).f1; have yf2 := (O5.d4).f2; have yf3 := (O5.d4).f3
    have b1 := B5.c1
    clear O5 B5
    rcases HT with ⟨rfl, rfl⟩ | ⟨p, rfl, rfl⟩
    · go_wp2_with fail
      exact bodyPost_ret (v := gtV ⟨0, 5, a.ub, a.at_⟩) (by simp [results, Try.results29, go_sem, r0, r1, r2, r3, rf0, rf1, rf2, rf3, gtV]) rfl ⟨rfl, set4 O.out.hb (by omega) _ _ _ _⟩
    · go_upto_region 11 with fail
      refine at_world (fun W => OnI w W n ⟨some ⟨p, 0, none⟩, ba, bl, bc⟩ o res t D3 (D3 + 1) a ⟨0, b.t, a.ub, a.at_⟩) (O.out.setT b.t) ?_
      intro W7 O7
      clear n0 n1 n2 n3 n4 n5 n6 e0 e1 e2 e3 e4 e5 r0 r1 r2 r3 rf0 rf1 rf2 rf3 x0 x1 x2 x3 xf0 xf1 xf2 xf3 y0 y1 y2 y3 yf0 yf1 yf2 yf3 O
      have O := Lib.hid O7
      have n0 := (O7.b7).c0; have n1 : _ = _ := (O7.b7).box1; have n2 := (O7.b7).box2; have n3 := (O7.b7).box3; have n4 := (O7.b7).box4; have n5 := (O7.b7).box5; have n6 := (O7.b7).box6; have e0 := (O7.b6).c0; have e1 := (O7.b6).c1; have e2 := (O7.b6).c2; have e3 := (O7.b6).c3; have e4 := (O7.b6).c4; have e5 := (O7.b6).c5; have r0 := (O7.r4).c0; have r1 := (O7.r4).c1; have r2 := (O7.r4).c2; have r3 := (O7.r4).c3; have rf0 := (O7.r4).f0; have rf1 := (O7.r4).f1; have rf2 := (O7.r4).f2; have rf3 := (O7.r4).f3; have x0 := (O7.a4).c0; have x1 := (O7.a4).c1; have x2 := (O7.a4).c2; have x3 := (O7.a4).c3; have xf0 := (O7.a4).f0; have xf1 := (O7.a4).f1; have xf2 := (O7.a4).f2; have xf3 := (O7.a4).f3; have y0 := (O7.d4).c0; have y1 := (O7.d4).c1; have y2 := (O7.d4).c2; have y3 := (O7.d4).c3; have yf0 := (O7.d4).f0; have yf1 := (O7.d4).f1; have yf2 := (O7.d4).f2; have yf3 := (O7.d4).f3
      clear O7
      go_wp2_with fail
      exact bodyPost_ret (v := gtV ⟨0, b.t, a.ub, a.at_⟩) (by simp [results, Try.results29, go_sem, r0, r1, r2, r3, rf0, rf1, rf2, rf3, gtV]) rfl ⟨rfl, set4 O.out.hb (by omega) _ _ _ _⟩
set_option maxRecDepth 100000 in
set_option maxHeartbeats 6400000 in
theorem one_cast (n : Ex) (v o : NV) (res t : Int) (e : Env0) (A : Option Addr) (len cc : Nat) (a : Gt) (w : World) (h : NOK 41 w v e) (hk : n.k = 18) (hu : a.ub = 0)
    (IH : ∀ W, Below w.heap.size w W → Calls Try.prog 20 #[.slice A len cc, .int .i64 n.a, envA v o res t] W fun e' w' => e' = .returned (gtV a) ∧ Below W.heap.size W w') :
    Calls Try.prog 29 #[.slice A len cc, exA n, envA v o res t] w fun e' w' => e' = .returned (gtV (castP n a)) ∧ Below w.heap.size w w' := by
  have HG : castP n a = ⟨wrapT n.t a.v, n.t, 0, 0⟩ := by unfold castP; rw [if_pos hu]
  rw [HG]
  clear HG h
  obtain ⟨q, hq⟩ : ∃ q, wrapT n.t a.v = q := ⟨_, rfl⟩
  have LX : ∀ W, Calls Try.prog 23 #[.int .i64 n.t, .int .i64 a.v] W fun e w' => e = .returned (.int .i64 q) ∧ W = w' := fun W => by have := wrap_c n.t a.v W; rwa [hq] at this
  rw [hq]
  clear hq
  have HK := Lib.hid hk
  clear hk
  (try have HUU := Lib.hid hu)
  (try clear hu)
  obtain ⟨mp, ba, bl, bc⟩ := v
  unfold exA envA
  have IH2 : ∀ W, Below w.heap.size w W → Calls Try.prog 20 #[.slice A len cc, .int .i64 n.a, .agg #[.pointer mp, .slice ba bl bc, .pointer o.mp, .slice o.ba o.bl o.bc, .int .i64 res, .int .i64 t]] W fun e' w' => e' = .returned (.agg #[.int .i64 a.v, .int .i64 a.t, .int .i64 a.ub, .int .i64 a.at_]) ∧ Below W.heap.size W w' := IH
  clear IH
  simp only
  go_enter Try.func29, Try.ntmps29
  go_upto_region 1 with fail
  refine at_world (fun W => NmI w W n ⟨mp, ba, bl, bc⟩ o res t) ⟨(by repeat' (first | exact Below.refl _ _ | (refine Below.alloc ?_ ?_ _) | (refine Below.setCell ?_ ?_ _) | (refine Below.drew ?_) | (refine below_next ?_ ?_ (by assumption)) | omega | (simp; done) | (simp; omega))), ⟨by first | (simp; done) | (simp; omega), by simp [go_sem], by simp [go_sem], by simp [go_sem], by simp [go_sem], by simp [go_sem], by simp [go_sem], by simp [go_sem]⟩, ⟨by first | (simp; done) | (simp; omega), by simp [go_sem], by simp [go_sem], by simp [go_sem], by simp [go_sem], by simp [go_sem], by simp [go_sem]⟩, ⟨by first | (simp; done) | (simp; omega), by simp [go_sem], by simp [go_sem], by simp [go_sem], by simp [go_sem], by simp [go_sem], by simp [go_sem], by simp [go_sem], by simp [go_sem]⟩⟩ ?_
  intro W0 N0
  have N := Lib.hid N0
  have n0 := (N0.b7).c0; have n1 : _ = _ := (N0.b7).box1; have n2 := (N0.b7).box2; have n3 := (N0.b7).box3; have n4 := (N0.b7).box4; have n5 := (N0.b7).box5; have n6 := (N0.b7).box6
  have e0 := (N0.b6).c0; have e1 := (N0.b6).c1; have e2 := (N0.b6).c2; have e3 := (N0.b6).c3; have e4 := (N0.b6).c4; have e5 := (N0.b6).c5
  have hsz0 : w.heap.size + 3 ≤ W0.heap.size := by have := N0.b4.lt; omega
  clear N0
  go_upto_region 2 with (go_at_call 20; refine (IH2 _ N.out.hb).mono ?_; rintro e' w1 ⟨rfl, hb1⟩; have N := Lib.hid (N.out.below hb1); have hs1 := hb1.size; clear hb1 IH2)
  refine at_world (fun W => NmI w W n ⟨mp, ba, bl, bc⟩ o res t ∧ Bx4 W w1.heap.size a ∧ W.heap.size = w1.heap.size + 1) ⟨N.out.below (by repeat' (first | exact Below.refl _ _ | (refine Below.alloc ?_ ?_ _) | (refine Below.setCell ?_ ?_ _) | (refine Below.drew ?_) | (refine below_next ?_ ?_ (by assumption)) | omega | (simp; done) | (simp; omega))), ⟨by first | (simp; done) | (simp; omega), by simp [go_sem], by simp [go_sem], by simp [go_sem], by simp [go_sem], by simp [go_sem], by simp [go_sem], by simp [go_sem], by simp [go_sem]⟩, by simp⟩ ?_
  rintro W2 ⟨N2, A2, hz2⟩
  have N := Lib.hid N2
  have x0 := A2.c0
  have x1 := A2.c1
  have x2 := A2.c2
  have x3 := A2.c3
  go_upto_region 3 with fail
  refine at_world (fun W => OnI w W n ⟨mp, ba, bl, bc⟩ o res t w1.heap.size (w1.heap.size + 1) a ⟨0, 0, a.ub, a.at_⟩) ⟨below_next N2.hb N2.hb.size (by repeat' (first | exact Below.refl _ _ | (refine Below.alloc ?_ ?_ _) | (refine Below.setCell ?_ ?_ _) | (refine Below.drew ?_) | (refine below_next ?_ ?_ (by assumption)) | omega | (simp; done) | (simp; omega))), N2.b7.below (by repeat' (first | exact Below.refl _ _ | (refine Below.alloc ?_ ?_ _) | (refine Below.setCell ?_ ?_ _) | (refine Below.drew ?_) | (refine below_next ?_ ?_ (by assumption)) | omega | (simp; done) | (simp; omega))), N2.b6.below (by repeat' (first | exact Below.refl _ _ | (refine Below.alloc ?_ ?_ _) | (refine Below.setCell ?_ ?_ _) | (refine Below.drew ?_) | (refine below_next ?_ ?_ (by assumption)) | omega | (simp; done) | (simp; omega))), N2.b4.below (by repeat' (first | exact Below.refl _ _ | (refine Below.alloc ?_ ?_ _) | (refine Below.setCell ?_ ?_ _) | (refine Below.drew ?_) | (refine below_next ?_ ?_ (by assumption)) | omega | (simp; done) | (simp; omega))), A2.below (by repeat' (first | exact Below.refl _ _ | (refine Below.alloc ?_ ?_ _) | (refine Below.setCell ?_ ?_ _) | (refine Below.drew ?_) | (refine below_next ?_ ?_ (by assumption)) | omega | (simp; done) | (simp; omega))), by rw [← hz2]; exact ⟨by first | (simp; done) | (simp; omega), by simp [go_sem], by simp [go_sem], by simp [go_sem], by simp [go_sem], by simp [go_sem], by simp [go_sem], by simp [go_sem], by simp [go_sem]⟩, by omega, by omega⟩ ?_
  intro W3 O3
  obtain ⟨D3, hD3⟩ : ∃ x, w1.heap.size = x := ⟨_, rfl⟩
  simp only [hz2, hD3] at O3 ⊢
  clear hD3 hz2 N2 A2 n0 n1 n2 n3 n4 n5 n6 e0 e1 e2 e3 e4 e5 x0 x1 x2 x3 hsz0 hs1
  have O := Lib.hid O3
  have n0 := (O3.b7).c0; have n1 : _ = _ := (O3.b7).box1; have n2 := (O3.b7).box2; have n3 := (O3.b7).box3; have n4 := (O3.b7).box4; have n5 := (O3.b7).box5; have n6 := (O3.b7).box6; have e0 := (O3.b6).c0; have e1 := (O3.b6).c1; have e2 := (O3.b6).c2; have e3 := (O3.b6).c3; have e4 := (O3.b6).c4; have e5 := (O3.b6).c5; have r0 := (O3.r4).c0; have r1 := (O3.r4).c1; have r2 := (O3.r4).c2; have r3 := (O3.r4).c3; have rf0 := (O3.r4).f0; have rf1 := (O3.r4).f1; have rf2 := (O3.r4).f2; have rf3 := (O3.r4).f3; have x0 := (O3.a4).c0; have x1 := (O3.a4).c1; have x2 := (O3.a4).c2; have x3 := (O3.a4).c3; have xf0 := (O3.a4).f0; have xf1 := (O3.a4).f1; have xf2 := (O3.a4).f2; have xf3 := (O3.a4).f3; have y0 := (O3.d4).c0; have y1 := (O3.d4).c1; have y2 := (O3.d4).c2; have y3 := (O3.d4).c3; have yf0 := (O3.d4).f0; have yf1 := (O3.d4).f1; have yf2 := (O3.d4).f2; have yf3 := (O3.d4).f3
  have h3 := O3.h3
  have h4 := O3.h4
  clear O3 N
  rw [HK.out] at n0
  rw [HUU.out] at x2
  go_upto_region 14 with fail
  have d0 := fun (x' : WIn (Below W3.heap.size W3)) => cell_later x'.h n2
  have d1 := fun (x' : WIn (Below W3.heap.size W3)) => cell_later x'.h x0
  refine region_tail 8 (Below W3.heap.size W3) (by kernel_rfl) (by kernel_rfl) (Below.refl _ _).drew (fun inst => ?_)
  simp only [List.take_succ_cons, List.take_zero, List.drop_succ_cons, List.drop_zero]
  iterate 8 (go_big_quiet_step ((go_at_call 23; exact call_same _ (LX _))))
  refine wpQuiet_nil ?_
  intro wd hbd
  have O := Lib.hid (O.out.below hbd)
  clear hbd d0 d1 LX
  have r0 := (O.out.r4).c0; have r1 := (O.out.r4).c1; have r2 := (O.out.r4).c2; have r3 := (O.out.r4).c3; have rf0 := (O.out.r4).f0; have rf1 := (O.out.r4).f1; have rf2 := (O.out.r4).f2; have rf3 := (O.out.r4).f3
  go_wp2_with fail
  exact bodyPost_ret (v := gtV ⟨q, n.t, 0, 0⟩) (by simp [results, Try.results29, go_sem, r0, r1, r2, r3, rf0, rf1, rf2, rf3, gtV]) rfl ⟨rfl, set4 O.out.hb (by omega) _ _ _ _⟩
set_option maxRecDepth 100000 in
set_option maxHeartbeats 6400000 in
theorem one_cast2 (n : Ex) (v o : NV) (res t : Int) (e : Env0) (A : Option Addr) (len cc : Nat) (a : Gt) (w : World) (h : NOK 41 w v e) (hk : n.k = 18) (hu : a.ub ≠ 0)
    (IH : ∀ W, Below w.heap.size w W → Calls Try.prog 20 #[.slice A len cc, .int .i64 n.a, envA v o res t] W fun e' w' => e' = .returned (gtV a) ∧ Below W.heap.size W w') :
    Calls Try.prog 29 #[.slice A len cc, exA n, envA v o res t] w fun e' w' => e' = .returned (gtV (castP n a)) ∧ Below w.heap.size w w' := by
  have HG : castP n a = ⟨0, n.t, a.ub, a.at_⟩ := by unfold castP; rw [if_neg hu]
  rw [HG]
  clear HG h
  have g0 : (a.ub == 0) = false := by rw [beq_eq_false_iff_ne]; exact hu
  clear hu
  have HK := Lib.hid hk
  clear hk
  (try have HUU := Lib.hid hu)
  (try clear hu)
  obtain ⟨mp, ba, bl, bc⟩ := v
  unfold exA envA
  have IH2 : ∀ W, Below w.heap.size w W → Calls Try.prog 20 #[.slice A len cc, .int .i64 n.a, .agg #[.pointer mp, .slice ba bl bc, .pointer o.mp, .slice o.ba o.bl o.bc, .int .i64 res, .int .i64 t]] W fun e' w' => e' = .returned (.agg #[.int .i64 a.v, .int .i64 a.t, .int .i64 a.ub, .int .i64 a.at_]) ∧ Below W.heap.size W w' := IH
  clear IH
  simp only
  go_enter Try.func29, Try.ntmps29
  go_upto_region 1 with fail
  refine at_world (fun W => NmI w W n ⟨mp, ba, bl, bc⟩ o res t) ⟨(by repeat' (first | exact Below.refl _ _ | (refine Below.alloc ?_ ?_ _) | (refine Below.setCell ?_ ?_ _) | (refine Below.drew ?_) | (refine below_next ?_ ?_ (by assumption)) | omega | (simp; done) | (simp; omega))), ⟨by first | (simp; done) | (simp; omega), by simp [go_sem], by simp [go_sem], by simp [go_sem], by simp [go_sem], by simp [go_sem], by simp [go_sem], by simp [go_sem]⟩, ⟨by first | (simp; done) | (simp; omega), by simp [go_sem], by simp [go_sem], by simp [go_sem], by simp [go_sem], by simp [go_sem], by simp [go_sem]⟩, ⟨by first | (simp; done) | (simp; omega), by simp [go_sem], by simp [go_sem], by simp [go_sem], by simp [go_sem], by simp [go_sem], by simp [go_sem], by simp [go_sem], by simp [go_sem]⟩⟩ ?_
  intro W0 N0
  have N := Lib.hid N0
  have n0 := (N0.b7).c0; have n1 : _ = _ := (N0.b7).box1; have n2 := (N0.b7).box2; have n3 := (N0.b7).box3; have n4 := (N0.b7).box4; have n5 := (N0.b7).box5; have n6 := (N0.b7).box6
  have e0 := (N0.b6).c0; have e1 := (N0.b6).c1; have e2 := (N0.b6).c2; have e3 := (N0.b6).c3; have e4 := (N0.b6).c4; have e5 := (N0.b6).c5
  have hsz0 : w.heap.size + 3 ≤ W0.heap.size := by have := N0.b4.lt; omega
  clear N0
  go_upto_region 2 with (go_at_call 20; refine (IH2 _ N.out.hb).mono ?_; rintro e' w1 ⟨rfl, hb1⟩; have N := Lib.hid (N.out.below hb1); have hs1 := hb1.size; clear hb1 IH2)
  refine at_world (fun W => NmI w W n ⟨mp, ba, bl, bc⟩ o res t ∧ Bx4 W w1.heap.size a ∧ W.heap.size = w1.heap.size + 1) ⟨N.out.below (by repeat' (first | exact Below.refl _ _ | (refine Below.alloc ?_ ?_ _) | (refine Below.setCell ?_ ?_ _) | (refine Below.drew ?_) | (refine below_next ?_ ?_ (by assumption)) | omega | (simp; done) | (simp; omega))), ⟨by first | (simp; done) | (simp; omega), by simp [go_sem], by simp [go_sem], by simp [go_sem], by simp [go_sem], by simp [go_sem], by simp [go_sem], by simp [go_sem], by simp [go_sem]⟩, by simp⟩ ?_
  rintro W2 ⟨N2, A2, hz2⟩
  have N := Lib.hid N2
  have x0 := A2.c0
  have x1 := A2.c1
  have x2 := A2.c2
  have x3 := A2.c3
  go_upto_region 3 with fail
  refine at_world (fun W => OnI w W n ⟨mp, ba, bl, bc⟩ o res t w1.heap.size (w1.heap.size + 1) a ⟨0, 0, a.ub, a.at_⟩) ⟨below_next N2.hb N2.hb.size (by repeat' (first | exact Below.refl _ _ | (refine Below.alloc ?_ ?_ _) | (refine Below.setCell ?_ ?_ _) | (refine Below.drew ?_) | (refine below_next ?_ ?_ (by assumption)) | omega | (simp; done) | (simp; omega))), N2.b7.below (by repeat' (first | exact Below.refl _ _ | (refine Below.alloc ?_ ?_ _) | (refine Below.setCell ?_ ?_ _) | (refine Below.drew ?_) | (refine below_next ?_ ?_ (by assumption)) | omega | (simp; done) | (simp; omega))), N2.b6.below (by repeat' (first | exact Below.refl _ _ | (refine Below.alloc ?_ ?_ _) | (refine Below.setCell ?_ ?_ _) | (refine Below.drew ?_) | (refine below_next ?_ ?_ (by assumption)) | omega | (simp; done) | (simp; omega))), N2.b4.below (by repeat' (first | exact Below.refl _ _ | (refine Below.alloc ?_ ?_ _) | (refine Below.setCell ?_ ?_ _) | (refine Below.drew ?_) | (refine below_next ?_ ?_ (by assumption)) | omega | (simp; done) | (simp; omega))), A2.below (by repeat' (first | exact Below.refl _ _ | (refine Below.alloc ?_ ?_ _) | (refine Below.setCell ?_ ?_ _) | (refine Below.drew ?_) | (refine below_next ?_ ?_ (by assumption)) | omega | (simp; done) | (simp; omega))), by rw [← hz2]; exact ⟨by first | (simp; done) | (simp; omega), by simp [go_sem], by simp [go_sem], by simp [go_sem], by simp [go_sem], by simp [go_sem], by simp [go_sem], by simp [go_sem], by simp [go_sem]⟩, by omega, by omega⟩ ?_
  intro W3 O3
  obtain ⟨D3, hD3⟩ : ∃ x, w1.heap.size = x := ⟨_, rfl⟩
  simp only [hz2, hD3] at O3 ⊢
  clear hD3 hz2 N2 A2 n0 n1 n2 n3 n4 n5 n6 e0 e1 e2 e3 e4 e5 x0 x1 x2 x3 hsz0 hs1
  have O := Lib.hid O3
  have n0 := (O3.b7).c0; have n1 : _ = _ := (O3.b7).box1; have n2 := (O3.b7).box2; have n3 := (O3.b7).box3; have n4 := (O3.b7).box4; have n5 := (O3.b7).box5; have n6 := (O3.b7).box6; have e0 := (O3.b6).c0; have e1 := (O3.b6).c1; have e2 := (O3.b6).c2; have e3 := (O3.b6).c3; have e4 := (O3.b6).c4; have e5 := (O3.b6).c5; have r0 := (O3.r4).c0; have r1 := (O3.r4).c1; have r2 := (O3.r4).c2; have r3 := (O3.r4).c3; have rf0 := (O3.r4).f0; have rf1 := (O3.r4).f1; have rf2 := (O3.r4).f2; have rf3 := (O3.r4).f3; have x0 := (O3.a4).c0; have x1 := (O3.a4).c1; have x2 := (O3.a4).c2; have x3 := (O3.a4).c3; have xf0 := (O3.a4).f0; have xf1 := (O3.a4).f1; have xf2 := (O3.a4).f2; have xf3 := (O3.a4).f3; have y0 := (O3.d4).c0; have y1 := (O3.d4).c1; have y2 := (O3.d4).c2; have y3 := (O3.d4).c3; have yf0 := (O3.d4).f0; have yf1 := (O3.d4).f1; have yf2 := (O3.d4).f2; have yf3 := (O3.d4).f3
  have h3 := O3.h3
  have h4 := O3.h4
  clear O3 N
  rw [HK.out] at n0
  go_upto_region 16 with fail
  refine at_world (fun W => OnI w W n ⟨mp, ba, bl, bc⟩ o res t D3 (D3 + 1) a ⟨0, n.t, a.ub, a.at_⟩) (O.out.setT n.t) ?_
  intro W4 O4
  clear n0 n1 n2 n3 n4 n5 n6 e0 e1 e2 e3 e4 e5 r0 r1 r2 r3 rf0 rf1 rf2 rf3 x0 x1 x2 x3 xf0 xf1 xf2 xf3 y0 y1 y2 y3 yf0 yf1 yf2 yf3 O
  have O := Lib.hid O4
  have n0 := (O4.b7).c0; have n1 : _ = _ := (O4.b7).box1; have n2 := (O4.b7).box2; have n3 := (O4.b7).box3; have n4 := (O4.b7).box4; have n5 := (O4.b7).box5; have n6 := (O4.b7).box6; have e0 := (O4.b6).c0; have e1 := (O4.b6).c1; have e2 := (O4.b6).c2; have e3 := (O4.b6).c3; have e4 := (O4.b6).c4; have e5 := (O4.b6).c5; have r0 := (O4.r4).c0; have r1 := (O4.r4).c1; have r2 := (O4.r4).c2; have r3 := (O4.r4).c3; have rf0 := (O4.r4).f0; have rf1 := (O4.r4).f1; have rf2 := (O4.r4).f2; have rf3 := (O4.r4).f3; have x0 := (O4.a4).c0; have x1 := (O4.a4).c1; have x2 := (O4.a4).c2; have x3 := (O4.a4).c3; have xf0 := (O4.a4).f0; have xf1 := (O4.a4).f1; have xf2 := (O4.a4).f2; have xf3 := (O4.a4).f3; have y0 := (O4.d4).c0; have y1 := (O4.d4).c1; have y2 := (O4.d4).c2; have y3 := (O4.d4).c3; have yf0 := (O4.d4).f0; have yf1 := (O4.d4).f1; have yf2 := (O4.d4).f2; have yf3 := (O4.d4).f3
  clear O4
  go_wp2_with fail
  exact bodyPost_ret (v := gtV ⟨0, n.t, a.ub, a.at_⟩) (by simp [results, Try.results29, go_sem, r0, r1, r2, r3, rf0, rf1, rf2, rf3, gtV]) rfl ⟨rfl, set4 O.out.hb (by omega) _ _ _ _⟩
set_option maxRecDepth 100000 in
set_option maxHeartbeats 6400000 in
theorem one_un (n : Ex) (v o : NV) (res t : Int) (e : Env0) (A : Option Addr) (len cc : Nat) (a : Gt) (w : World) (h : NOK 41 w v e) (hk : n.k = 6 ∨ n.k = 7) (hu : a.ub = 0)
    (IH : ∀ W, Below w.heap.size w W → Calls Try.prog 20 #[.slice A len cc, .int .i64 n.a, envA v o res t] W fun e' w' => e' = .returned (gtV a) ∧ Below W.heap.size W w') :
    Calls Try.prog 29 #[.slice A len cc, exA n, envA v o res t] w fun e' w' => e' = .returned (gtV (unP n a)) ∧ Below w.heap.size w w' := by
  have HG : unP n a = twoP n.k n.at_ a ⟨0, a.t, 0, 0⟩ := by unfold unP; rw [if_pos hu]
  rw [HG]
  clear HG h
  obtain ⟨q, hq⟩ : ∃ q, twoP n.k n.at_ a ⟨0, a.t, 0, 0⟩ = q := ⟨_, rfl⟩
  have TC : ∀ W, Calls Try.prog 30 #[exA n, gtV a, gtV ⟨0, a.t, 0, 0⟩] W fun e' w' => e' = .returned (.agg #[.int .i64 q.v, .int .i64 q.t, .int .i64 q.ub, .int .i64 q.at_]) ∧ Below W.heap.size W w' := fun W => by have := etwo_c n a ⟨0, a.t, 0, 0⟩ W; rw [hq] at this; exact this
  rw [hq]
  clear hq
  unfold exA gtV at TC
  rcases hk with hk | hk
  · have HK := Lib.hid hk
    clear hk
    (try have HUU := Lib.hid hu)
    (try clear hu)
    obtain ⟨mp, ba, bl, bc⟩ := v
    unfold exA envA
    rw [HK.out] at TC
    have IH2 : ∀ W, Below w.heap.size w W → Calls Try.prog 20 #[.slice A len cc, .int .i64 n.a, .agg #[.pointer mp, .slice ba bl bc, .pointer o.mp, .slice o.ba o.bl o.bc, .int .i64 res, .int .i64 t]] W fun e' w' => e' = .returned (.agg #[.int .i64 a.v, .int .i64 a.t, .int .i64 a.ub, .int .i64 a.at_]) ∧ Below W.heap.size W w' := IH
    clear IH
    simp only
    go_enter Try.func29, Try.ntmps29
    go_upto_region 1 with fail
    refine at_world (fun W => NmI w W n ⟨mp, ba, bl, bc⟩ o res t) ⟨(by repeat' (first | exact Below.refl _ _ | (refine Below.alloc ?_ ?_ _) | (refine Below.setCell ?_ ?_ _) | (refine Below.drew ?_) | (refine below_next ?_ ?_ (by assumption)) | omega | (simp; done) | (simp; omega))), ⟨by first | (simp; done) | (simp; omega), by simp [go_sem], by simp [go_sem], by simp [go_sem], by simp [go_sem], by simp [go_sem], by simp [go_sem], by simp [go_sem]⟩, ⟨by first | (simp; done) | (simp; omega), by simp [go_sem], by simp [go_sem], by simp [go_sem], by simp [go_sem], by simp [go_sem], by simp [go_sem]⟩, ⟨by first | (simp; done) | (simp; omega), by simp [go_sem], by simp [go_sem], by simp [go_sem], by simp [go_sem], by simp [go_sem], by simp [go_sem], by simp [go_sem], by simp [go_sem]⟩⟩ ?_
    intro W0 N0
    have N := Lib.hid N0
    have n0 := (N0.b7).c0; have n1 : _ = _ := (N0.b7).box1; have n2 := (N0.b7).box2; have n3 := (N0.b7).box3; have n4 := (N0.b7).box4; have n5 := (N0.b7).box5; have n6 := (N0.b7).box6
    have e0 := (N0.b6).c0; have e1 := (N0.b6).c1; have e2 := (N0.b6).c2; have e3 := (N0.b6).c3; have e4 := (N0.b6).c4; have e5 := (N0.b6).c5
    have hsz0 : w.heap.size + 3 ≤ W0.heap.size := by have := N0.b4.lt; omega
    clear N0
    go_upto_region 2 with (go_at_call 20; refine (IH2 _ N.out.hb).mono ?_; rintro e' w1 ⟨rfl, hb1⟩; have N := Lib.hid (N.out.below hb1); have hs1 := hb1.size; clear hb1 IH2)
    refine at_world (fun W => NmI w W n ⟨mp, ba, bl, bc⟩ o res t ∧ Bx4 W w1.heap.size a ∧ W.heap.size = w1.heap.size + 1) ⟨N.out.below (by repeat' (first | exact Below.refl _ _ | (refine Below.alloc ?_ ?_ _) | (refine Below.setCell ?_ ?_ _) | (refine Below.drew ?_) | (refine below_next ?_ ?_ (by assumption)) | omega | (simp; done) | (simp; omega))), ⟨by first | (simp; done) | (simp; omega), by simp [go_sem], by simp [go_sem], by simp [go_sem], by simp [go_sem], by simp [go_sem], by simp [go_sem], by simp [go_sem], by simp [go_sem]⟩, by simp⟩ ?_
    rintro W2 ⟨N2, A2, hz2⟩
    have N := Lib.hid N2
    have x0 := A2.c0
    have x1 := A2.c1
    have x2 := A2.c2
    have x3 := A2.c3
    go_upto_region 3 with fail
    refine at_world (fun W => OnI w W n ⟨mp, ba, bl, bc⟩ o res t w1.heap.size (w1.heap.size + 1) a ⟨0, 0, a.ub, a.at_⟩) ⟨below_next N2.hb N2.hb.size (by repeat' (first | exact Below.refl _ _ | (refine Below.alloc ?_ ?_ _) | (refine Below.setCell ?_ ?_ _) | (refine Below.drew ?_) | (refine below_next ?_ ?_ (by assumption)) | omega | (simp; done) | (simp; omega))), N2.b7.below (by repeat' (first | exact Below.refl _ _ | (refine Below.alloc ?_ ?_ _) | (refine Below.setCell ?_ ?_ _) | (refine Below.drew ?_) | (refine below_next ?_ ?_ (by assumption)) | omega | (simp; done) | (simp; omega))), N2.b6.below (by repeat' (first | exact Below.refl _ _ | (refine Below.alloc ?_ ?_ _) | (refine Below.setCell ?_ ?_ _) | (refine Below.drew ?_) | (refine below_next ?_ ?_ (by assumption)) | omega | (simp; done) | (simp; omega))), N2.b4.below (by repeat' (first | exact Below.refl _ _ | (refine Below.alloc ?_ ?_ _) | (refine Below.setCell ?_ ?_ _) | (refine Below.drew ?_) | (refine below_next ?_ ?_ (by assumption)) | omega | (simp; done) | (simp; omega))), A2.below (by repeat' (first | exact Below.refl _ _ | (refine Below.alloc ?_ ?_ _) | (refine Below.setCell ?_ ?_ _) | (refine Below.drew ?_) | (refine below_next ?_ ?_ (by assumption)) | omega | (simp; done) | (simp; omega))), by rw [← hz2]; exact ⟨by first | (simp; done) | (simp; omega), by simp [go_sem], by simp [go_sem], by simp [go_sem], by simp [go_sem], by simp [go_sem], by simp [go_sem], by simp [go_sem], by simp [go_sem]⟩, by omega, by omega⟩ ?_
    intro W3 O3
    obtain ⟨D3, hD3⟩ : ∃ x, w1.heap.size = x := ⟨_, rfl⟩
    simp only [hz2, hD3] at O3 ⊢
    clear hD3 hz2 N2 A2 n0 n1 n2 n3 n4 n5 n6 e0 e1 e2 e3 e4 e5 x0 x1 x2 x3 hsz0 hs1
    have O := Lib.hid O3
    have n0 := (O3.b7).c0; have n1 : _ = _ := (O3.b7).box1; have n2 := (O3.b7).box2; have n3 := (O3.b7).box3; have n4 := (O3.b7).box4; have n5 := (O3.b7).box5; have n6 := (O3.b7).box6; have e0 := (O3.b6).c0; have e1 := (O3.b6).c1; have e2 := (O3.b6).c2; have e3 := (O3.b6).c3; have e4 := (O3.b6).c4; have e5 := (O3.b6).c5; have r0 := (O3.r4).c0; have r1 := (O3.r4).c1; have r2 := (O3.r4).c2; have r3 := (O3.r4).c3; have rf0 := (O3.r4).f0; have rf1 := (O3.r4).f1; have rf2 := (O3.r4).f2; have rf3 := (O3.r4).f3; have x0 := (O3.a4).c0; have x1 := (O3.a4).c1; have x2 := (O3.a4).c2; have x3 := (O3.a4).c3; have xf0 := (O3.a4).f0; have xf1 := (O3.a4).f1; have xf2 := (O3.a4).f2; have xf3 := (O3.a4).f3; have y0 := (O3.d4).c0; have y1 := (O3.d4).c1; have y2 := (O3.d4).c2; have y3 := (O3.d4).c3; have yf0 := (O3.d4).f0; have yf1 := (O3.d4).f1; have yf2 := (O3.d4).f2; have yf3 := (O3.d4).f3
    have h3 := O3.h3
    have h4 := O3.h4
    clear O3 N
    rw [HK.out] at n0
    rw [HUU.out] at x2
    rw [HUU.out] at TC
    go_wp2_with (go_at_call 30; refine (TC _).mono ?_; rintro e' w5 ⟨rfl, hb5⟩; have O := Lib.hid (O.out.below hb5); have r0 := (O.out.r4).c0; have r1 := (O.out.r4).c1; have r2 := (O.out.r4).c2; have r3 := (O.out.r4).c3; have rf0 := (O.out.r4).f0; have rf1 := (O.out.r4).f1; have rf2 := (O.out.r4).f2; have rf3 := (O.out.r4).f3; clear hb5 TC)
    exact bodyPost_ret (v := gtV q) (by simp [results, Try.results29, go_sem, r0, r1, r2, r3, rf0, rf1, rf2, rf3, gtV]) rfl ⟨rfl, set4 O.out.hb (by omega) _ _ _ _⟩
  · have HK := Lib.hid hk
    clear hk
    (try have HUU := Lib.hid hu)
    (try clear hu)
    obtain ⟨mp, ba, bl, bc⟩ := v
    unfold exA envA
    rw [HK.out] at TC
    have IH2 : ∀ W, Below w.heap.size w W → Calls Try.prog 20 #[.slice A len cc, .int .i64 n.a, .agg #[.pointer mp, .slice ba bl bc, .pointer o.mp, .slice o.ba o.bl o.bc, .int .i64 res, .int .i64 t]] W fun e' w' => e' = .returned (.agg #[.int .i64 a.v, .int .i64 a.t, .int .i64 a.ub, .int .i64 a.at_]) ∧ Below W.heap.size W w' := IH
    clear IH
    simp only
    go_enter Try.func29, Try.ntmps29
    go_upto_region 1 with fail
    refine at_world (fun W => NmI w W n ⟨mp, ba, bl, bc⟩ o res t) ⟨(by repeat' (first | exact Below.refl _ _ | (refine Below.alloc ?_ ?_ _) | (refine Below.setCell ?_ ?_ _) | (refine Below.drew ?_) | (refine below_next ?_ ?_ (by assumption)) | omega | (simp; done) | (simp; omega))), ⟨by first | (simp; done) | (simp; omega), by simp [go_sem], by simp [go_sem], by simp [go_sem], by simp [go_sem], by simp [go_sem], by simp [go_sem], by simp [go_sem]⟩, ⟨by first | (simp; done) | (simp; omega), by simp [go_sem], by simp [go_sem], by simp [go_sem], by simp [go_sem], by simp [go_sem], by simp [go_sem]⟩, ⟨by first | (simp; done) | (simp; omega), by simp [go_sem], by simp [go_sem], by simp [go_sem], by simp [go_sem], by simp [go_sem], by simp [go_sem], by simp [go_sem], by simp [go_sem]⟩⟩ ?_
    intro W0 N0
    have N := Lib.hid N0
    have n0 := (N0.b7).c0; have n1 : _ = _ := (N0.b7).box1; have n2 := (N0.b7).box2; have n3 := (N0.b7).box3; have n4 := (N0.b7).box4; have n5 := (N0.b7).box5; have n6 := (N0.b7).box6
    have e0 := (N0.b6).c0; have e1 := (N0.b6).c1; have e2 := (N0.b6).c2; have e3 := (N0.b6).c3; have e4 := (N0.b6).c4; have e5 := (N0.b6).c5
    have hsz0 : w.heap.size + 3 ≤ W0.heap.size := by have := N0.b4.lt; omega
    clear N0
    go_upto_region 2 with (go_at_call 20; refine (IH2 _ N.out.hb).mono ?_; rintro e' w1 ⟨rfl, hb1⟩; have N := Lib.hid (N.out.below hb1); have hs1 := hb1.size; clear hb1 IH2)
    refine at_world (fun W => NmI w W n ⟨mp, ba, bl, bc⟩ o res t ∧ Bx4 W w1.heap.size a ∧ W.heap.size = w1.heap.size + 1) ⟨N.out.below (by repeat' (first | exact Below.refl _ _ | (refine Below.alloc ?_ ?_ _) | (refine Below.setCell ?_ ?_ _) | (refine Below.drew ?_) | (refine below_next ?_ ?_ (by assumption)) | omega | (simp; done) | (simp; omega))), ⟨by first | (simp; done) | (simp; omega), by simp [go_sem], by simp [go_sem], by simp [go_sem], by simp [go_sem], by simp [go_sem], by simp [go_sem], by simp [go_sem], by simp [go_sem]⟩, by simp⟩ ?_
    rintro W2 ⟨N2, A2, hz2⟩
    have N := Lib.hid N2
    have x0 := A2.c0
    have x1 := A2.c1
    have x2 := A2.c2
    have x3 := A2.c3
    go_upto_region 3 with fail
    refine at_world (fun W => OnI w W n ⟨mp, ba, bl, bc⟩ o res t w1.heap.size (w1.heap.size + 1) a ⟨0, 0, a.ub, a.at_⟩) ⟨below_next N2.hb N2.hb.size (by repeat' (first | exact Below.refl _ _ | (refine Below.alloc ?_ ?_ _) | (refine Below.setCell ?_ ?_ _) | (refine Below.drew ?_) | (refine below_next ?_ ?_ (by assumption)) | omega | (simp; done) | (simp; omega))), N2.b7.below (by repeat' (first | exact Below.refl _ _ | (refine Below.alloc ?_ ?_ _) | (refine Below.setCell ?_ ?_ _) | (refine Below.drew ?_) | (refine below_next ?_ ?_ (by assumption)) | omega | (simp; done) | (simp; omega))), N2.b6.below (by repeat' (first | exact Below.refl _ _ | (refine Below.alloc ?_ ?_ _) | (refine Below.setCell ?_ ?_ _) | (refine Below.drew ?_) | (refine below_next ?_ ?_ (by assumption)) | omega | (simp; done) | (simp; omega))), N2.b4.below (by repeat' (first | exact Below.refl _ _ | (refine Below.alloc ?_ ?_ _) | (refine Below.setCell ?_ ?_ _) | (refine Below.drew ?_) | (refine below_next ?_ ?_ (by assumption)) | omega | (simp; done) | (simp; omega))), A2.below (by repeat' (first | exact Below.refl _ _ | (refine Below.alloc ?_ ?_ _) | (refine Below.setCell ?_ ?_ _) | (refine Below.drew ?_) | (refine below_next ?_ ?_ (by assumption)) | omega | (simp; done) | (simp; omega))), by rw [← hz2]; exact ⟨by first | (simp; done) | (simp; omega), by simp [go_sem], by simp [go_sem], by simp [go_sem], by simp [go_sem], by simp [go_sem], by simp [go_sem], by simp [go_sem], by simp [go_sem]⟩, by omega, by omega⟩ ?_
    intro W3 O3
    obtain ⟨D3, hD3⟩ : ∃ x, w1.heap.size = x := ⟨_, rfl⟩
    simp only [hz2, hD3] at O3 ⊢
    clear hD3 hz2 N2 A2 n0 n1 n2 n3 n4 n5 n6 e0 e1 e2 e3 e4 e5 x0 x1 x2 x3 hsz0 hs1
    have O := Lib.hid O3
    have n0 := (O3.b7).c0; have n1 : _ = _ := (O3.b7).box1; have n2 := (O3.b7).box2; have n3 := (O3.b7).box3; have n4 := (O3.b7).box4; have n5 := (O3.b7).box5; have n6 := (O3.b7).box6; have e0 := (O3.b6).c0; have e1 := (O3.b6).c1; have e2 := (O3.b6).c2; have e3 := (O3.b6).c3; have e4 := (O3.b6).c4; have e5 := (O3.b6).c5; have r0 := (O3.r4).c0; have r1 := (O3.r4).c1; have r2 := (O3.r4).c2; have r3 := (O3.r4).c3; have rf0 := (O3.r4).f0; have rf1 := (O3.r4).f1; have rf2 := (O3.r4).f2; have rf3 := (O3.r4).f3; have x0 := (O3.a4).c0; have x1 := (O3.a4).c1; have x2 := (O3.a4).c2; have x3 := (O3.a4).c3; have xf0 := (O3.a4).f0; have xf1 := (O3.a4).f1; have xf2 := (O3.a4).f2; have xf3 := (O3.a4).f3; have y0 := (O3.d4).c0; have y1 := (O3.d4).c1; have y2 := (O3.d4).c2; have y3 := (O3.d4).c3; have yf0 := (O3.d4).f0; have yf1 := (O3.d4).f1; have yf2 := (O3.d4).f2; have yf3 := (O3.d4).f3
    have h3 := O3.h3
    have h4 := O3.h4
    clear O3 N
    rw [HK.out] at n0
    rw [HUU.out] at x2
    rw [HUU.out] at TC
    go_wp2_with (go_at_call 30; refine (TC _).mono ?_; rintro e' w5 ⟨rfl, hb5⟩; have O := Lib.hid (O.out.below hb5); have r0 := (O.out.r4).c0; have r1 := (O.out.r4).c1; have r2 := (O.out.r4).c2; have r3 := (O.out.r4).c3; have rf0 := (O.out.r4).f0; have rf1 := (O.out.r4).f1; have rf2 := (O.out.r4).f2; have rf3 := (O.out.r4).f3; clear hb5 TC)
    exact bodyPost_ret (v := gtV q) (by simp [results, Try.results29, go_sem, r0, r1, r2, r3, rf0, rf1, rf2, rf3, gtV]) rfl ⟨rfl, set4 O.out.hb (by omega) _ _ _ _⟩
set_option maxRecDepth 100000 in
set_option maxHeartbeats 6400000 in
theorem one_un2 (n : Ex) (v o : NV) (res t : Int) (e : Env0) (A : Option Addr) (len cc : Nat) (a : Gt) (w : World) (h : NOK 41 w v e) (hk : n.k = 6 ∨ n.k = 7) (hu : a.ub ≠ 0)
    (IH : ∀ W, Below w.heap.size w W → Calls Try.prog 20 #[.slice A len cc, .int .i64 n.a, envA v o res t] W fun e' w' => e' = .returned (gtV a) ∧ Below W.heap.size W w') :
    Calls Try.prog 29 #[.slice A len cc, exA n, envA v o res t] w fun e' w' => e' = .returned (gtV (unP n a)) ∧ Below w.heap.size w w' := by
  have HG : unP n a = ⟨0, mixT n.k a.t 0, a.ub, a.at_⟩ := by unfold unP; rw [if_neg hu]
  rw [HG]
  clear HG h
  have g0 : (a.ub == 0) = false := by rw [beq_eq_false_iff_ne]; exact hu
  obtain ⟨q, hq⟩ : ∃ q, mixT n.k a.t 0 = q := ⟨_, rfl⟩
  have MC : ∀ W, Calls Try.prog 21 #[.int .i64 n.k, .int .i64 a.t, .int .i64 0] W fun e w' => e = .returned (.int .i64 q) ∧ W = w' := fun W => by have := mixed_c n.k a.t 0 W; rwa [hq] at this
  rw [hq]
  clear hq hu
  rcases hk with hk | hk
  · have HK := Lib.hid hk
    clear hk
    (try have HUU := Lib.hid hu)
    (try clear hu)
    obtain ⟨mp, ba, bl, bc⟩ := v
    unfold exA envA
    rw [HK.out] at MC
    have IH2 : ∀ W, Below w.heap.size w W → Calls Try.prog 20 #[.slice A len cc, .int .i64 n.a, .agg #[.pointer mp, .slice ba bl bc, .pointer o.mp, .slice o.ba o.bl o.bc, .int .i64 res, .int .i64 t]] W fun e' w' => e' = .returned (.agg #[.int .i64 a.v, .int .i64 a.t, .int .i64 a.ub, .int .i64 a.at_]) ∧ Below W.heap.size W w' := IH
    clear IH
    simp only
    go_enter Try.func29, Try.ntmps29
    go_upto_region 1 with fail
    refine at_world (fun W => NmI w W n ⟨mp, ba, bl, bc⟩ o res t) ⟨(by repeat' (first | exact Below.refl _ _ | (refine Below.alloc ?_ ?_ _) | (refine Below.setCell ?_ ?_ _) | (refine Below.drew ?_) | (refine below_next ?_ ?_ (by assumption)) | omega | (simp; done) | (simp; omega))), ⟨by first | (simp; done) | (simp; omega), by simp [go_sem], by simp [go_sem], by simp [go_sem], by simp [go_sem], by simp [go_sem], by simp [go_sem], by simp [go_sem]⟩, ⟨by first | (simp; done) | (simp; omega), by simp [go_sem], by simp [go_sem], by simp [go_sem], by simp [go_sem], by simp [go_sem], by simp [go_sem]⟩, ⟨by first | (simp; done) | (simp; omega), by simp [go_sem], by simp [go_sem], by simp [go_sem], by simp [go_sem], by simp [go_sem], by simp [go_sem], by simp [go_sem], by simp [go_sem]⟩⟩ ?_
    intro W0 N0
    have N := Lib.hid N0
    have n0 := (N0.b7).c0; have n1 : _ = _ := (N0.b7).box1; have n2 := (N0.b7).box2; have n3 := (N0.b7).box3; have n4 := (N0.b7).box4; have n5 := (N0.b7).box5; have n6 := (N0.b7).box6
    have e0 := (N0.b6).c0; have e1 := (N0.b6).c1; have e2 := (N0.b6).c2; have e3 := (N0.b6).c3; have e4 := (N0.b6).c4; have e5 := (N0.b6).c5
    have hsz0 : w.heap.size + 3 ≤ W0.heap.size := by have := N0.b4.lt; omega
    clear N0
    go_upto_region 2 with (go_at_call 20; refine (IH2 _ N.out.hb).mono ?_; rintro e' w1 ⟨rfl, hb1⟩; have N := Lib.hid (N.out.below hb1); have hs1 := hb1.size; clear hb1 IH2)
    refine at_world (fun W => NmI w W n ⟨mp, ba, bl, bc⟩ o res t ∧ Bx4 W w1.heap.size a ∧ W.heap.size = w1.heap.size + 1) ⟨N.out.below (by repeat' (first | exact Below.refl _ _ | (refine Below.alloc ?_ ?_ _) | (refine Below.setCell ?_ ?_ _) | (refine Below.drew ?_) | (refine below_next ?_ ?_ (by assumption)) | omega | (simp; done) | (simp; omega))), ⟨by first | (simp; done) | (simp; omega), by simp [go_sem], by simp [go_sem], by simp [go_sem], by simp [go_sem], by simp [go_sem], by simp [go_sem], by simp [go_sem], by simp [go_sem]⟩, by simp⟩ ?_
    rintro W2 ⟨N2, A2, hz2⟩
    have N := Lib.hid N2
    have x0 := A2.c0
    have x1 := A2.c1
    have x2 := A2.c2
    have x3 := A2.c3
    go_upto_region 3 with fail
    refine at_world (fun W => OnI w W n ⟨mp, ba, bl, bc⟩ o res t w1.heap.size (w1.heap.size + 1) a ⟨0, 0, a.ub, a.at_⟩) ⟨below_next N2.hb N2.hb.size (by repeat' (first | exact Below.refl _ _ | (refine Below.alloc ?_ ?_ _) | (refine Below.setCell ?_ ?_ _) | (refine Below.drew ?_) | (refine below_next ?_ ?_ (by assumption)) | omega | (simp; done) | (simp; omega))), N2.b7.below (by repeat' (first | exact Below.refl _ _ | (refine Below.alloc ?_ ?_ _) | (refine Below.setCell ?_ ?_ _) | (refine Below.drew ?_) | (refine below_next ?_ ?_ (by assumption)) | omega | (simp; done) | (simp; omega))), N2.b6.below (by repeat' (first | exact Below.refl _ _ | (refine Below.alloc ?_ ?_ _) | (refine Below.setCell ?_ ?_ _) | (refine Below.drew ?_) | (refine below_next ?_ ?_ (by assumption)) | omega | (simp; done) | (simp; omega))), N2.b4.below (by repeat' (first | exact Below.refl _ _ | (refine Below.alloc ?_ ?_ _) | (refine Below.setCell ?_ ?_ _) | (refine Below.drew ?_) | (refine below_next ?_ ?_ (by assumption)) | omega | (simp; done) | (simp; omega))), A2.below (by repeat' (first | exact Below.refl _ _ | (refine Below.alloc ?_ ?_ _) | (refine Below.setCell ?_ ?_ _) | (refine Below.drew ?_) | (refine below_next ?_ ?_ (by assumption)) | omega | (simp; done) | (simp; omega))), by rw [← hz2]; exact ⟨by first | (simp; done) | (simp; omega), by simp [go_sem], by simp [go_sem], by simp [go_sem], by simp [go_sem], by simp [go_sem], by simp [go_sem], by simp [go_sem], by simp [go_sem]⟩, by omega, by omega⟩ ?_
    intro W3 O3
    obtain ⟨D3, hD3⟩ : ∃ x, w1.heap.size = x := ⟨_, rfl⟩
    simp only [hz2, hD3] at O3 ⊢
    clear hD3 hz2 N2 A2 n0 n1 n2 n3 n4 n5 n6 e0 e1 e2 e3 e4 e5 x0 x1 x2 x3 hsz0 hs1
    have O := Lib.hid O3
    have n0 := (O3.b7).c0; have n1 : _ = _ := (O3.b7).box1; have n2 := (O3.b7).box2; have n3 := (O3.b7).box3; have n4 := (O3.b7).box4; have n5 := (O3.b7).box5; have n6 := (O3.b7).box6; have e0 := (O3.b6).c0; have e1 := (O3.b6).c1; have e2 := (O3.b6).c2; have e3 := (O3.b6).c3; have e4 := (O3.b6).c4; have e5 := (O3.b6).c5; have r0 := (O3.r4).c0; have r1 := (O3.r4).c1; have r2 := (O3.r4).c2; have r3 := (O3.r4).c3; have rf0 := (O3.r4).f0; have rf1 := (O3.r4).f1; have rf2 := (O3.r4).f2; have rf3 := (O3.r4).f3; have x0 := (O3.a4).c0; have x1 := (O3.a4).c1; have x2 := (O3.a4).c2; have x3 := (O3.a4).c3; have xf0 := (O3.a4).f0; have xf1 := (O3.a4).f1; have xf2 := (O3.a4).f2; have xf3 := (O3.a4).f3; have y0 := (O3.d4).c0; have y1 := (O3.d4).c1; have y2 := (O3.d4).c2; have y3 := (O3.d4).c3; have yf0 := (O3.d4).f0; have yf1 := (O3.d4).f1; have yf2 := (O3.d4).f2; have yf3 := (O3.d4).f3
    have h3 := O3.h3
    have h4 := O3.h4
    clear O3 N
    rw [HK.out] at n0
    go_upto_region 20 with (go_at_call 21; refine (MC _).mono ?_; rintro e' w' ⟨rfl, rfl⟩; clear MC)
    refine at_world (fun W => OnI w W n ⟨mp, ba, bl, bc⟩ o res t D3 (D3 + 1) a ⟨0, q, a.ub, a.at_⟩) (O.out.setT q) ?_
    intro W4 O4
    clear n0 n1 n2 n3 n4 n5 n6 e0 e1 e2 e3 e4 e5 r0 r1 r2 r3 rf0 rf1 rf2 rf3 x0 x1 x2 x3 xf0 xf1 xf2 xf3 y0 y1 y2 y3 yf0 yf1 yf2 yf3 O
    have O := Lib.hid O4
    have n0 := (O4.b7).c0; have n1 : _ = _ := (O4.b7).box1; have n2 := (O4.b7).box2; have n3 := (O4.b7).box3; have n4 := (O4.b7).box4; have n5 := (O4.b7).box5; have n6 := (O4.b7).box6; have e0 := (O4.b6).c0; have e1 := (O4.b6).c1; have e2 := (O4.b6).c2; have e3 := (O4.b6).c3; have e4 := (O4.b6).c4; have e5 := (O4.b6).c5; have r0 := (O4.r4).c0; have r1 := (O4.r4).c1; have r2 := (O4.r4).c2; have r3 := (O4.r4).c3; have rf0 := (O4.r4).f0; have rf1 := (O4.r4).f1; have rf2 := (O4.r4).f2; have rf3 := (O4.r4).f3; have x0 := (O4.a4).c0; have x1 := (O4.a4).c1; have x2 := (O4.a4).c2; have x3 := (O4.a4).c3; have xf0 := (O4.a4).f0; have xf1 := (O4.a4).f1; have xf2 := (O4.a4).f2; have xf3 := (O4.a4).f3; have y0 := (O4.d4).c0; have y1 := (O4.d4).c1; have y2 := (O4.d4).c2; have y3 := (O4.d4).c3; have yf0 := (O4.d4).f0; have yf1 := (O4.d4).f1; have yf2 := (O4.d4).f2; have yf3 := (O4.d4).f3
    clear O4
    go_wp2_with fail
    exact bodyPost_ret (v := gtV ⟨0, q, a.ub, a.at_⟩) (by simp [results, Try.results29, go_sem, r0, r1, r2, r3, rf0, rf1, rf2, rf3, gtV]) rfl ⟨rfl, set4 O.out.hb (by omega) _ _ _ _⟩
  · have HK := Lib.hid hk
    clear hk
    (try have HUU := Lib.hid hu)
    (try clear hu)
    obtain ⟨mp, ba, bl, bc⟩ := v
    unfold exA envA
    rw [HK.out] at MC
    have IH2 : ∀ W, Below w.heap.size w W → Calls Try.prog 20 #[.slice A len cc, .int .i64 n.a, .agg #[.pointer mp, .slice ba bl bc, .pointer o.mp, .slice o.ba o.bl o.bc, .int .i64 res, .int .i64 t]] W fun e' w' => e' = .returned (.agg #[.int .i64 a.v, .int .i64 a.t, .int .i64 a.ub, .int .i64 a.at_]) ∧ Below W.heap.size W w' := IH
    clear IH
    simp only
    go_enter Try.func29, Try.ntmps29
    go_upto_region 1 with fail
    refine at_world (fun W => NmI w W n ⟨mp, ba, bl, bc⟩ o res t) ⟨(by repeat' (first | exact Below.refl _ _ | (refine Below.alloc ?_ ?_ _) | (refine Below.setCell ?_ ?_ _) | (refine Below.drew ?_) | (refine below_next ?_ ?_ (by assumption)) | omega | (simp; done) | (simp; omega))), ⟨by first | (simp; done) | (simp; omega), by simp [go_sem], by simp [go_sem], by simp [go_sem], by simp [go_sem], by simp [go_sem], by simp [go_sem], by simp [go_sem]⟩, ⟨by first | (simp; done) | (simp; omega), by simp [go_sem], by simp [go_sem], by simp [go_sem], by simp [go_sem], by simp [go_sem], by simp [go_sem]⟩, ⟨by first | (simp; done) | (simp; omega), by simp [go_sem], by simp [go_sem], by simp [go_sem], by simp [go_sem], by simp [go_sem], by simp [go_sem], by simp [go_sem], by simp [go_sem]⟩⟩ ?_
    intro W0 N0
    have N := Lib.hid N0
    have n0 := (N0.b7).c0; have n1 : _ = _ := (N0.b7).box1; have n2 := (N0.b7).box2; have n3 := (N0.b7).box3; have n4 := (N0.b7).box4; have n5 := (N0.b7).box5; have n6 := (N0.b7).box6
    have e0 := (N0.b6).c0; have e1 := (N0.b6).c1; have e2 := (N0.b6).c2; have e3 := (N0.b6).c3; have e4 := (N0.b6).c4; have e5 := (N0.b6).c5
    have hsz0 : w.heap.size + 3 ≤ W0.heap.size := by have := N0.b4.lt; omega
    clear N0
    go_upto_region 2 with (go_at_call 20; refine (IH2 _ N.out.hb).mono ?_; rintro e' w1 ⟨rfl, hb1⟩; have N := Lib.hid (N.out.below hb1); have hs1 := hb1.size; clear hb1 IH2)
    refine at_world (fun W => NmI w W n ⟨mp, ba, bl, bc⟩ o res t ∧ Bx4 W w1.heap.size a ∧ W.heap.size = w1.heap.size + 1) ⟨N.out.below (by repeat' (first | exact Below.refl _ _ | (refine Below.alloc ?_ ?_ _) | (refine Below.setCell ?_ ?_ _) | (refine Below.drew ?_) | (refine below_next ?_ ?_ (by assumption)) | omega | (simp; done) | (simp; omega))), ⟨by first | (simp; done) | (simp; omega), by simp [go_sem], by simp [go_sem], by simp [go_sem], by simp [go_sem], by simp [go_sem], by simp [go_sem], by simp [go_sem], by simp [go_sem]⟩, by simp⟩ ?_
    rintro W2 ⟨N2, A2, hz2⟩
    have N := Lib.hid N2
    have x0 := A2.c0
    have x1 := A2.c1
    have x2 := A2.c2
    have x3 := A2.c3
    go_upto_region 3 with fail
    refine at_world (fun W => OnI w W n ⟨mp, ba, bl, bc⟩ o res t w1.heap.size (w1.heap.size + 1) a ⟨0, 0, a.ub, a.at_⟩) ⟨below_next N2.hb N2.hb.size (by repeat' (first | exact Below.refl _ _ | (refine Below.alloc ?_ ?_ _) | (refine Below.setCell ?_ ?_ _) | (refine Below.drew ?_) | (refine below_next ?_ ?_ (by assumption)) | omega | (simp; done) | (simp; omega))), N2.b7.below (by repeat' (first | exact Below.refl _ _ | (refine Below.alloc ?_ ?_ _) | (refine Below.setCell ?_ ?_ _) | (refine Below.drew ?_) | (refine below_next ?_ ?_ (by assumption)) | omega | (simp; done) | (simp; omega))), N2.b6.below (by repeat' (first | exact Below.refl _ _ | (refine Below.alloc ?_ ?_ _) | (refine Below.setCell ?_ ?_ _) | (refine Below.drew ?_) | (refine below_next ?_ ?_ (by assumption)) | omega | (simp; done) | (simp; omega))), N2.b4.below (by repeat' (first | exact Below.refl _ _ | (refine Below.alloc ?_ ?_ _) | (refine Below.setCell ?_ ?_ _) | (refine Below.drew ?_) | (refine below_next ?_ ?_ (by assumption)) | omega | (simp; done) | (simp; omega))), A2.below (by repeat' (first | exact Below.refl _ _ | (refine Below.alloc ?_ ?_ _) | (refine Below.setCell ?_ ?_ _) | (refine Below.drew ?_) | (refine below_next ?_ ?_ (by assumption)) | omega | (simp; done) | (simp; omega))), by rw [← hz2]; exact ⟨by first | (simp; done) | (simp; omega), by simp [go_sem], by simp [go_sem], by simp [go_sem], by simp [go_sem], by simp [go_sem], by simp [go_sem], by simp [go_sem], by simp [go_sem]⟩, by omega, by omega⟩ ?_
    intro W3 O3
    obtain ⟨D3, hD3⟩ : ∃ x, w1.heap.size = x := ⟨_, rfl⟩
    simp only [hz2, hD3] at O3 ⊢
    clear hD3 hz2 N2 A2 n0 n1 n2 n3 n4 n5 n6 e0 e1 e2 e3 e4 e5 x0 x1 x2 x3 hsz0 hs1
    have O := Lib.hid O3
    have n0 := (O3.b7).c0; have n1 : _ = _ := (O3.b7).box1; have n2 := (O3.b7).box2; have n3 := (O3.b7).box3; have n4 := (O3.b7).box4; have n5 := (O3.b7).box5; have n6 := (O3.b7).box6; have e0 := (O3.b6).c0; have e1 := (O3.b6).c1; have e2 := (O3.b6).c2; have e3 := (O3.b6).c3; have e4 := (O3.b6).c4; have e5 := (O3.b6).c5; have r0 := (O3.r4).c0; have r1 := (O3.r4).c1; have r2 := (O3.r4).c2; have r3 := (O3.r4).c3; have rf0 := (O3.r4).f0; have rf1 := (O3.r4).f1; have rf2 := (O3.r4).f2; have rf3 := (O3.r4).f3; have x0 := (O3.a4).c0; have x1 := (O3.a4).c1; have x2 := (O3.a4).c2; have x3 := (O3.a4).c3; have xf0 := (O3.a4).f0; have xf1 := (O3.a4).f1; have xf2 := (O3.a4).f2; have xf3 := (O3.a4).f3; have y0 := (O3.d4).c0; have y1 := (O3.d4).c1; have y2 := (O3.d4).c2; have y3 := (O3.d4).c3; have yf0 := (O3.d4).f0; have yf1 := (O3.d4).f1; have yf2 := (O3.d4).f2; have yf3 := (O3.d4).f3
    have h3 := O3.h3
    have h4 := O3.h4
    clear O3 N
    rw [HK.out] at n0
    go_upto_region 20 with (go_at_call 21; refine (MC _).mono ?_; rintro e' w' ⟨rfl, rfl⟩; clear MC)
    refine at_world (fun W => OnI w W n ⟨mp, ba, bl, bc⟩ o res t D3 (D3 + 1) a ⟨0, q, a.ub, a.at_⟩) (O.out.setT q) ?_
    intro W4 O4
    clear n0 n1 n2 n3 n4 n5 n6 e0 e1 e2 e3 e4 e5 r0 r1 r2 r3 rf0 rf1 rf2 rf3 x0 x1 x2 x3 xf0 xf1 xf2 xf3 y0 y1 y2 y3 yf0 yf1 yf2 yf3 O
    have O := Lib.hid O4
    have n0 := (O4.b7).c0; have n1 : _ = _ := (O4.b7).box1; have n2 := (O4.b7).box2; have n3 := (O4.b7).box3; have n4 := (O4.b7).box4; have n5 := (O4.b7).box5; have n6 := (O4.b7).box6; have e0 := (O4.b6).c0; have e1 := (O4.b6).c1; have e2 := (O4.b6).c2; have e3 := (O4.b6).c3; have e4 := (O4.b6).c4; have e5 := (O4.b6).c5; have r0 := (O4.r4).c0; have r1 := (O4.r4).c1; have r2 := (O4.r4).c2; have r3 := (O4.r4).c3; have rf0 := (O4.r4).f0; have rf1 := (O4.r4).f1; have rf2 := (O4.r4).f2; have rf3 := (O4.r4).f3; have x0 := (O4.a4).c0; have x1 := (O4.a4).c1; have x2 := (O4.a4).c2; have x3 := (O4.a4).c3; have xf0 := (O4.a4).f0; have xf1 := (O4.a4).f1; have xf2 := (O4.a4).f2; have xf3 := (O4.a4).f3; have y0 := (O4.d4).c0; have y1 := (O4.d4).c1; have y2 := (O4.d4).c2; have y3 := (O4.d4).c3; have yf0 := (O4.d4).f0; have yf1 := (O4.d4).f1; have yf2 := (O4.d4).f2; have yf3 := (O4.d4).f3
    clear O4
    go_wp2_with fail
    exact bodyPost_ret (v := gtV ⟨0, q, a.ub, a.at_⟩) (by simp [results, Try.results29, go_sem, r0, r1, r2, r3, rf0, rf1, rf2, rf3, gtV]) rfl ⟨rfl, set4 O.out.hb (by omega) _ _ _ _⟩
end Go.Proofs.Ytnnhdkchdjddkaa.C
