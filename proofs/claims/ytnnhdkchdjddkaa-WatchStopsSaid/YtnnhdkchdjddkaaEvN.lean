/- What a name has: the boxes; eval.name: walk (printed by gen_ev.py). -/
import Derived.Test.YtnnhdkchdjddkaaEvV
namespace Go.Proofs.Ytnnhdkchdjddkaa.C
open Go.RowKit
set_option linter.unusedSimpArgs false
set_option linter.unusedVariables false
theorem Bx7.box1 {W : World} {D : Nat} {x : Ex} (h : Bx7 W D 0 x) : W.cell? ⟨D, 1, none⟩ = some (.int .i64 x.num) := h.c1
theorem Bx7.box2 {W : World} {D : Nat} {x : Ex} (h : Bx7 W D 0 x) : W.cell? ⟨D, 2, none⟩ = some (.int .i64 x.t) := h.c2
theorem Bx7.box3 {W : World} {D : Nat} {x : Ex} (h : Bx7 W D 0 x) : W.cell? ⟨D, 3, none⟩ = some (.string (nmB x.nm)) := h.c3
theorem Bx7.box4 {W : World} {D : Nat} {x : Ex} (h : Bx7 W D 0 x) : W.cell? ⟨D, 4, none⟩ = some (.int .i64 x.a) := h.c4
theorem Bx7.box5 {W : World} {D : Nat} {x : Ex} (h : Bx7 W D 0 x) : W.cell? ⟨D, 5, none⟩ = some (.int .i64 x.b) := h.c5
theorem Bx7.box6 {W : World} {D : Nat} {x : Ex} (h : Bx7 W D 0 x) : W.cell? ⟨D, 6, none⟩ = some (.int .i64 x.at_) := h.c6
/-- Inside name. -/
structure NmI (w W : World) (n : Ex) (v o : NV) (res t : Int) : Prop where
  hb : Below w.heap.size w W
  b7 : Bx7 W w.heap.size 0 n
  b6 : Bx6 W (w.heap.size + 1) v o res t
  b4 : Bx4 W (w.heap.size + 1 + 1) ⟨0, 0, 0, 0⟩
theorem NmI.below {w W W' : World} {n : Ex} {v o : NV} {res t : Int} (h : NmI w W n v o res t) (hb : Below W.heap.size W W') : NmI w W' n v o res t :=
  ⟨below_next h.hb h.hb.size hb, h.b7.below hb, h.b6.below hb, h.b4.below hb⟩
set_option maxRecDepth 100000 in
set_option maxHeartbeats 6400000 in
theorem name_c (n : Ex) (v o : NV) (res t idx : Int) (e : Env0) (w : World) (h : NOK 41 w v e) :
    Calls Try.prog 28 #[exA n, envA v o res t, .int .i64 idx] w fun e' w' => e' = .returned (gtV (nameP e n idx)) ∧ Below w.heap.size w w' := by
  unfold exA envA
  obtain ⟨mp, ba, bl, bc⟩ := v
  obtain ⟨h1, h2, h3⟩ := h
  simp only at h1 h2 h3 ⊢
  obtain ⟨q, hq⟩ : ∃ q, nameP e n idx = q := ⟨_, rfl⟩
  have HQ := Lib.hid hq
  rw [hq]
  unfold nameP at hq
  rcases hlb : lastB e.bs (nmB n.nm) e.bs.length with _ | b
  · rw [hlb] at hq
    simp only at hq
    subst hq
    have HN : Hid (nameP e n idx = ⟨0, 5, 0, 0⟩) := HQ
    clear h3 HQ
    have HB : ∀ W, Below w.heap.size w W → Calls Try.prog 40 #[.slice ba bl bc, .string (nmB n.nm)] W fun e' w' => e' = .returned (.tuple #[.agg #[.string ⟨#[]⟩, .int .i64 0, .int .i64 0, .int .i64 0], .bool false]) ∧ Below W.heap.size W w' := fun W hb => (bind_c ba bl bc e.bs (nmB n.nm) W (h1.below hb) h2).mono (fun e' w' hh => ⟨by rw [hh.1, hlb]; rfl, hh.2⟩)
    clear h1 h2 hlb
    go_enter Try.func28, Try.ntmps28
    go_upto_region 1 with fail
    refine at_world (fun W => NmI w W n ⟨mp, ba, bl, bc⟩ o res t) ⟨(by repeat' (first | exact Below.refl _ _ | (refine Below.alloc ?_ ?_ _) | (refine Below.setCell ?_ ?_ _) | (refine Below.drew ?_) | (refine below_next ?_ ?_ (by assumption)) | omega | (simp; done) | (simp; omega))), ⟨by first | (simp; done) | (simp; omega), by simp [go_sem], by simp [go_sem], by simp [go_sem], by simp [go_sem], by simp [go_sem], by simp [go_sem], by simp [go_sem]⟩, ⟨by first | (simp; done) | (simp; omega), by simp [go_sem], by simp [go_sem], by simp [go_sem], by simp [go_sem], by simp [go_sem], by simp [go_sem]⟩, ⟨by first | (simp; done) | (simp; omega), by simp [go_sem], by simp [go_sem], by simp [go_sem], by simp [go_sem], by simp [go_sem], by simp [go_sem], by simp [go_sem], by simp [go_sem]⟩⟩ ?_
    intro W0 N0
    have N := Lib.hid N0
    have n0 := (N0.b7).c0; have n1 : _ = _ := (N0.b7).box1; have n2 := (N0.b7).box2; have n3 := (N0.b7).box3; have n4 := (N0.b7).box4; have n5 := (N0.b7).box5; have n6 := (N0.b7).box6
    have e0 := (N0.b6).c0; have e1 := (N0.b6).c1; have e2 := (N0.b6).c2; have e3 := (N0.b6).c3; have e4 := (N0.b6).c4; have e5 := (N0.b6).c5
    clear N0
    go_upto_region 2 with (go_at_call 40; refine (HB _ N.out.hb).mono ?_; rintro e' w1 ⟨rfl, hb1⟩; have N := Lib.hid (N.out.below hb1); clear hb1 HB)
    refine at_world (fun W => NmI w W n ⟨mp, ba, bl, bc⟩ o res t) (N.out.below (by repeat' (first | exact Below.refl _ _ | (refine Below.alloc ?_ ?_ _) | (refine Below.setCell ?_ ?_ _) | (refine Below.drew ?_) | (refine below_next ?_ ?_ (by assumption)) | omega | (simp; done) | (simp; omega)))) ?_
    intro W2 N2
    have r0 := (N2.b4).c0; have r1 := (N2.b4).c1; have r2 := (N2.b4).c2; have r3 := (N2.b4).c3; have rf0 := (N2.b4).f0; have rf1 := (N2.b4).f1; have rf2 := (N2.b4).f2; have rf3 := (N2.b4).f3
    have hb := N2.hb
    clear N2
    go_wp2_with fail
    exact bodyPost_ret (v := gtV ⟨0, 5, 0, 0⟩) (by simp [results, Try.results28, go_sem, r0, r1, r2, r3, rf0, rf1, rf2, rf3, gtV]) rfl ⟨rfl, set4 hb (by omega) _ _ _ _⟩
  rw [hlb] at hq
  simp only at hq
  rcases h3 with ⟨rfl, hh⟩ | ⟨p, rfl, hh, hg⟩
  · rw [if_pos hh] at hq
    subst hq
    have HB : ∀ W, Below w.heap.size w W → Calls Try.prog 40 #[.slice ba bl bc, .string (nmB n.nm)] W fun e' w' => e' = .returned (.tuple #[.agg #[.string b.nm, .int .i64 b.t, .int .i64 b.size, .int .i64 b.id], .bool true]) ∧ Below W.heap.size W w' := fun W hb => (bind_c ba bl bc e.bs (nmB n.nm) W (h1.below hb) h2).mono (fun e' w' hh => ⟨by rw [hh.1, hlb]; rfl, hh.2⟩)
    clear h1 h2 hlb
    go_enter Try.func28, Try.ntmps28
    go_upto_region 1 with fail
    refine at_world (fun W => NmI w W n ⟨none, ba, bl, bc⟩ o res t) ⟨(by repeat' (first | exact Below.refl _ _ | (refine Below.alloc ?_ ?_ _) | (refine Below.setCell ?_ ?_ _) | (refine Below.drew ?_) | (refine below_next ?_ ?_ (by assumption)) | omega | (simp; done) | (simp; omega))), ⟨by first | (simp; done) | (simp; omega), by simp [go_sem], by simp [go_sem], by simp [go_sem], by simp [go_sem], by simp [go_sem], by simp [go_sem], by simp [go_sem]⟩, ⟨by first | (simp; done) | (simp; omega), by simp [go_sem], by simp [go_sem], by simp [go_sem], by simp [go_sem], by simp [go_sem], by simp [go_sem]⟩, ⟨by first | (simp; done) | (simp; omega), by simp [go_sem], by simp [go_sem], by simp [go_sem], by simp [go_sem], by simp [go_sem], by simp [go_sem], by simp [go_sem], by simp [go_sem]⟩⟩ ?_
    intro W0 N0
    have N := Lib.hid N0
    have n0 := (N0.b7).c0; have n1 : _ = _ := (N0.b7).box1; have n2 := (N0.b7).box2; have n3 := (N0.b7).box3; have n4 := (N0.b7).box4; have n5 := (N0.b7).box5; have n6 := (N0.b7).box6
    have e0 := (N0.b6).c0; have e1 := (N0.b6).c1; have e2 := (N0.b6).c2; have e3 := (N0.b6).c3; have e4 := (N0.b6).c4; have e5 := (N0.b6).c5
    clear N0
    go_upto_region 2 with (go_at_call 40; refine (HB _ N.out.hb).mono ?_; rintro e' w1 ⟨rfl, hb1⟩; have N := Lib.hid (N.out.below hb1); clear hb1 HB)
    refine at_world (fun W => NmI w W n ⟨none, ba, bl, bc⟩ o res t ∧ BxB W w1.heap.size b) ⟨N.out.below (by repeat' (first | exact Below.refl _ _ | (refine Below.alloc ?_ ?_ _) | (refine Below.setCell ?_ ?_ _) | (refine Below.drew ?_) | (refine below_next ?_ ?_ (by assumption)) | omega | (simp; done) | (simp; omega))), ⟨by first | (simp; done) | (simp; omega), by simp [go_sem], by simp [go_sem], by simp [go_sem]⟩⟩ ?_
    rintro W2 ⟨N2, B2⟩
    obtain ⟨D3, hD3⟩ : ∃ x, w1.heap.size = x := ⟨_, rfl⟩
    simp only [hD3] at B2 ⊢
    clear hD3
    have N := Lib.hid N2
    have B := Lib.hid B2
    have n0 := (N2.b7).c0; have n1 : _ = _ := (N2.b7).box1; have n2 := (N2.b7).box2; have n3 := (N2.b7).box3; have n4 := (N2.b7).box4; have n5 := (N2.b7).box5; have n6 := (N2.b7).box6
    have e0 := (N2.b6).c0; have e1 := (N2.b6).c1; have e2 := (N2.b6).c2; have e3 := (N2.b6).c3; have e4 := (N2.b6).c4; have e5 := (N2.b6).c5
    have r0 := (N2.b4).c0; have r1 := (N2.b4).c1; have r2 := (N2.b4).c2; have r3 := (N2.b4).c3; have rf0 := (N2.b4).f0; have rf1 := (N2.b4).f1; have rf2 := (N2.b4).f2; have rf3 := (N2.b4).f3
    have b1 := B2.c1
    have b2 := B2.c2
    have b3 := B2.c3
    clear N2 B2
    have hb := N.out.hb
    go_wp2_with fail
    exact bodyPost_ret (v := gtV ⟨0, 5, 0, 0⟩) (by simp [results, Try.results28, go_sem, r0, r1, r2, r3, rf0, rf1, rf2, rf3, gtV]) rfl ⟨rfl, set4 hb (by omega) _ _ _ _⟩
  rw [if_neg (by rw [hh]; simp)] at hq
  obtain ⟨mx, hmx⟩ : ∃ x, (if 1 < b.size then b.size else 1) = x := ⟨_, rfl⟩
  rw [hmx] at hq
  have HG := Lib.hid hg
  clear hg hh HQ
  rcases (by omega : idx < 0 ∨ (0 ≤ idx ∧ mx ≤ idx) ∨ (0 ≤ idx ∧ idx < mx)) with hi | ⟨hi, hj⟩ | ⟨hi, hj⟩
  · rw [if_pos (.inl hi)] at hq
    subst hq
    have HB : ∀ W, Below w.heap.size w W → Calls Try.prog 40 #[.slice ba bl bc, .string (nmB n.nm)] W fun e' w' => e' = .returned (.tuple #[.agg #[.string b.nm, .int .i64 b.t, .int .i64 b.size, .int .i64 b.id], .bool true]) ∧ Below W.heap.size W w' := fun W hb => (bind_c ba bl bc e.bs (nmB n.nm) W (h1.below hb) h2).mono (fun e' w' hh => ⟨by rw [hh.1, hlb]; rfl, hh.2⟩)
    clear h1 h2 hlb
    go_enter Try.func28, Try.ntmps28
    go_upto_region 1 with fail
    refine at_world (fun W => NmI w W n ⟨some ⟨p, 0, none⟩, ba, bl, bc⟩ o res t) ⟨(by repeat' (first | exact Below.refl _ _ | (refine Below.alloc ?_ ?_ _) | (refine Below.setCell ?_ ?_ _) | (refine Below.drew ?_) | (refine below_next ?_ ?_ (by assumption)) | omega | (simp; done) | (simp; omega))), ⟨by first | (simp; done) | (simp; omega), by simp [go_sem], by simp [go_sem], by simp [go_sem], by simp [go_sem], by simp [go_sem], by simp [go_sem], by simp [go_sem]⟩, ⟨by first | (simp; done) | (simp; omega), by simp [go_sem], by simp [go_sem], by simp [go_sem], by simp [go_sem], by simp [go_sem], by simp [go_sem]⟩, ⟨by first | (simp; done) | (simp; omega), by simp [go_sem], by simp [go_sem], by simp [go_sem], by simp [go_sem], by simp [go_sem], by simp [go_sem], by simp [go_sem], by simp [go_sem]⟩⟩ ?_
    intro W0 N0
    have N := Lib.hid N0
    have n0 := (N0.b7).c0; have n1 : _ = _ := (N0.b7).box1; have n2 := (N0.b7).box2; have n3 := (N0.b7).box3; have n4 := (N0.b7).box4; have n5 := (N0.b7).box5; have n6 := (N0.b7).box6
    have e0 := (N0.b6).c0; have e1 := (N0.b6).c1; have e2 := (N0.b6).c2; have e3 := (N0.b6).c3; have e4 := (N0.b6).c4; have e5 := (N0.b6).c5
    clear N0
    go_upto_region 2 with (go_at_call 40; refine (HB _ N.out.hb).mono ?_; rintro e' w1 ⟨rfl, hb1⟩; have N := Lib.hid (N.out.below hb1); clear hb1 HB)
    refine at_world (fun W => NmI w W n ⟨some ⟨p, 0, none⟩, ba, bl, bc⟩ o res t ∧ BxB W w1.heap.size b) ⟨N.out.below (by repeat' (first | exact Below.refl _ _ | (refine Below.alloc ?_ ?_ _) | (refine Below.setCell ?_ ?_ _) | (refine Below.drew ?_) | (refine below_next ?_ ?_ (by assumption)) | omega | (simp; done) | (simp; omega))), ⟨by first | (simp; done) | (simp; omega), by simp [go_sem], by simp [go_sem], by simp [go_sem]⟩⟩ ?_
    rintro W2 ⟨N2, B2⟩
    obtain ⟨D3, hD3⟩ : ∃ x, w1.heap.size = x := ⟨_, rfl⟩
    simp only [hD3] at B2 ⊢
    clear hD3
    have N := Lib.hid N2
    have B := Lib.hid B2
    have n0 := (N2.b7).c0; have n1 : _ = _ := (N2.b7).box1; have n2 := (N2.b7).box2; have n3 := (N2.b7).box3; have n4 := (N2.b7).box4; have n5 := (N2.b7).box5; have n6 := (N2.b7).box6
    have e0 := (N2.b6).c0; have e1 := (N2.b6).c1; have e2 := (N2.b6).c2; have e3 := (N2.b6).c3; have e4 := (N2.b6).c4; have e5 := (N2.b6).c5
    have r0 := (N2.b4).c0; have r1 := (N2.b4).c1; have r2 := (N2.b4).c2; have r3 := (N2.b4).c3; have rf0 := (N2.b4).f0; have rf1 := (N2.b4).f1; have rf2 := (N2.b4).f2; have rf3 := (N2.b4).f3
    have b1 := B2.c1
    have b2 := B2.c2
    have b3 := B2.c3
    clear N2 B2
    have hb := N.out.hb
    go_wp2_with fail
    exact bodyPost_ret (v := gtV ⟨0, b.t, 4, n.at_⟩) (by simp [results, Try.results28, go_sem, r0, r1, r2, r3, rf0, rf1, rf2, rf3, gtV]) rfl ⟨rfl, set4 hb (by omega) _ _ _ _⟩
  · rw [if_pos (.inr hj)] at hq
    subst hq
    have g0 : decide (idx < 0) = false := decide_eq_false (by omega)
    have HB : ∀ W, Below w.heap.size w W → Calls Try.prog 40 #[.slice ba bl bc, .string (nmB n.nm)] W fun e' w' => e' = .returned (.tuple #[.agg #[.string b.nm, .int .i64 b.t, .int .i64 b.size, .int .i64 b.id], .bool true]) ∧ Below W.heap.size W w' := fun W hb => (bind_c ba bl bc e.bs (nmB n.nm) W (h1.below hb) h2).mono (fun e' w' hh => ⟨by rw [hh.1, hlb]; rfl, hh.2⟩)
    clear h1 h2 hlb
    go_enter Try.func28, Try.ntmps28
    go_upto_region 1 with fail
    refine at_world (fun W => NmI w W n ⟨some ⟨p, 0, none⟩, ba, bl, bc⟩ o res t) ⟨(by repeat' (first | exact Below.refl _ _ | (refine Below.alloc ?_ ?_ _) | (refine Below.setCell ?_ ?_ _) | (refine Below.drew ?_) | (refine below_next ?_ ?_ (by assumption)) | omega | (simp; done) | (simp; omega))), ⟨by first | (simp; done) | (simp; omega), by simp [go_sem], by simp [go_sem], by simp [go_sem], by simp [go_sem], by simp [go_sem], by simp [go_sem], by simp [go_sem]⟩, ⟨by first | (simp; done) | (simp; omega), by simp [go_sem], by simp [go_sem], by simp [go_sem], by simp [go_sem], by simp [go_sem], by simp [go_sem]⟩, ⟨by first | (simp; done) | (simp; omega), by simp [go_sem], by simp [go_sem], by simp [go_sem], by simp [go_sem], by simp [go_sem], by simp [go_sem], by simp [go_sem], by simp [go_sem]⟩⟩ ?_
    intro W0 N0
    have N := Lib.hid N0
    have n0 := (N0.b7).c0; have n1 : _ = _ := (N0.b7).box1; have n2 := (N0.b7).box2; have n3 := (N0.b7).box3; have n4 := (N0.b7).box4; have n5 := (N0.b7).box5; have n6 := (N0.b7).box6
    have e0 := (N0.b6).c0; have e1 := (N0.b6).c1; have e2 := (N0.b6).c2; have e3 := (N0.b6).c3; have e4 := (N0.b6).c4; have e5 := (N0.b6).c5
    clear N0
    go_upto_region 2 with (go_at_call 40; refine (HB _ N.out.hb).mono ?_; rintro e' w1 ⟨rfl, hb1⟩; have N := Lib.hid (N.out.below hb1); clear hb1 HB)
    refine at_world (fun W => NmI w W n ⟨some ⟨p, 0, none⟩, ba, bl, bc⟩ o res t ∧ BxB W w1.heap.size b) ⟨N.out.below (by repeat' (first | exact Below.refl _ _ | (refine Below.alloc ?_ ?_ _) | (refine Below.setCell ?_ ?_ _) | (refine Below.drew ?_) | (refine below_next ?_ ?_ (by assumption)) | omega | (simp; done) | (simp; omega))), ⟨by first | (simp; done) | (simp; omega), by simp [go_sem], by simp [go_sem], by simp [go_sem]⟩⟩ ?_
    rintro W2 ⟨N2, B2⟩
    obtain ⟨D3, hD3⟩ : ∃ x, w1.heap.size = x := ⟨_, rfl⟩
    simp only [hD3] at B2 ⊢
    clear hD3
    have N := Lib.hid N2
    have B := Lib.hid B2
    have n0 := (N2.b7).c0; have n1 : _ = _ := (N2.b7).box1; have n2 := (N2.b7).box2; have n3 := (N2.b7).box3; have n4 := (N2.b7).box4; have n5 := (N2.b7).box5; have n6 := (N2.b7).box6
    have e0 := (N2.b6).c0; have e1 := (N2.b6).c1; have e2 := (N2.b6).c2; have e3 := (N2.b6).c3; have e4 := (N2.b6).c4; have e5 := (N2.b6).c5
    have r0 := (N2.b4).c0; have r1 := (N2.b4).c1; have r2 := (N2.b4).c2; have r3 := (N2.b4).c3; have rf0 := (N2.b4).f0; have rf1 := (N2.b4).f1; have rf2 := (N2.b4).f2; have rf3 := (N2.b4).f3
    have b1 := B2.c1
    have b2 := B2.c2
    have b3 := B2.c3
    clear N2 B2
    have hb := N.out.hb
    go_wp2_with fail
    exact bodyPost_ret (v := gtV ⟨0, b.t, 4, n.at_⟩) (by simp [results, Try.results28, go_sem, r0, r1, r2, r3, rf0, rf1, rf2, rf3, gtV]) rfl ⟨rfl, set4 hb (by omega) _ _ _ _⟩
  · rw [if_neg (by omega)] at hq
    subst hq
    have g0 : decide (idx < 0) = false := decide_eq_false (by omega)
    have g1 : decide (mx ≤ idx) = false := decide_eq_false (by omega)
    have HB : ∀ W, Below w.heap.size w W → Calls Try.prog 40 #[.slice ba bl bc, .string (nmB n.nm)] W fun e' w' => e' = .returned (.tuple #[.agg #[.string b.nm, .int .i64 b.t, .int .i64 b.size, .int .i64 b.id], .bool true]) ∧ Below W.heap.size W w' := fun W hb => (bind_c ba bl bc e.bs (nmB n.nm) W (h1.below hb) h2).mono (fun e' w' hh => ⟨by rw [hh.1, hlb]; rfl, hh.2⟩)
    clear h1 h2 hlb
    go_enter Try.func28, Try.ntmps28
    go_upto_region 1 with fail
    refine at_world (fun W => NmI w W n ⟨some ⟨p, 0, none⟩, ba, bl, bc⟩ o res t) ⟨(by repeat' (first | exact Below.refl _ _ | (refine Below.alloc ?_ ?_ _) | (refine Below.setCell ?_ ?_ _) | (refine Below.drew ?_) | (refine below_next ?_ ?_ (by assumption)) | omega | (simp; done) | (simp; omega))), ⟨by first | (simp; done) | (simp; omega), by simp [go_sem], by simp [go_sem], by simp [go_sem], by simp [go_sem], by simp [go_sem], by simp [go_sem], by simp [go_sem]⟩, ⟨by first | (simp; done) | (simp; omega), by simp [go_sem], by simp [go_sem], by simp [go_sem], by simp [go_sem], by simp [go_sem], by simp [go_sem]⟩, ⟨by first | (simp; done) | (simp; omega), by simp [go_sem], by simp [go_sem], by simp [go_sem], by simp [go_sem], by simp [go_sem], by simp [go_sem], by simp [go_sem], by simp [go_sem]⟩⟩ ?_
    intro W0 N0
    have N := Lib.hid N0
    have n0 := (N0.b7).c0; have n1 : _ = _ := (N0.b7).box1; have n2 := (N0.b7).box2; have n3 := (N0.b7).box3; have n4 := (N0.b7).box4; have n5 := (N0.b7).box5; have n6 := (N0.b7).box6
    have e0 := (N0.b6).c0; have e1 := (N0.b6).c1; have e2 := (N0.b6).c2; have e3 := (N0.b6).c3; have e4 := (N0.b6).c4; have e5 := (N0.b6).c5
    clear N0
    go_upto_region 2 with (go_at_call 40; refine (HB _ N.out.hb).mono ?_; rintro e' w1 ⟨rfl, hb1⟩; have N := Lib.hid (N.out.below hb1); clear hb1 HB)
    refine at_world (fun W => NmI w W n ⟨some ⟨p, 0, none⟩, ba, bl, bc⟩ o res t ∧ BxB W w1.heap.size b) ⟨N.out.below (by repeat' (first | exact Below.refl _ _ | (refine Below.alloc ?_ ?_ _) | (refine Below.setCell ?_ ?_ _) | (refine Below.drew ?_) | (refine below_next ?_ ?_ (by assumption)) | omega | (simp; done) | (simp; omega))), ⟨by first | (simp; done) | (simp; omega), by simp [go_sem], by simp [go_sem], by simp [go_sem]⟩⟩ ?_
    rintro W2 ⟨N2, B2⟩
    obtain ⟨D3, hD3⟩ : ∃ x, w1.heap.size = x := ⟨_, rfl⟩
    simp only [hD3] at B2 ⊢
    clear hD3
    have N := Lib.hid N2
    have B := Lib.hid B2
    have n0 := (N2.b7).c0; have n1 : _ = _ := (N2.b7).box1; have n2 := (N2.b7).box2; have n3 := (N2.b7).box3; have n4 := (N2.b7).box4; have n5 := (N2.b7).box5; have n6 := (N2.b7).box6
    have e0 := (N2.b6).c0; have e1 := (N2.b6).c1; have e2 := (N2.b6).c2; have e3 := (N2.b6).c3; have e4 := (N2.b6).c4; have e5 := (N2.b6).c5
    have r0 := (N2.b4).c0; have r1 := (N2.b4).c1; have r2 := (N2.b4).c2; have r3 := (N2.b4).c3; have rf0 := (N2.b4).f0; have rf1 := (N2.b4).f1; have rf2 := (N2.b4).f2; have rf3 := (N2.b4).f3
    have b1 := B2.c1
    have b2 := B2.c2
    have b3 := B2.c3
    clear N2 B2
    have HGG := HG.out W2 N.out.hb b.id idx
    go_wp2_with (go_at_call 41; refine HGG.mono ?_; rintro e' w5 ⟨ok, rfl, rfl⟩)
    have hb := N.out.hb
    exact bodyPost_ret (v := gtV ⟨e.get b.id idx, b.t, 0, 0⟩) (by simp [results, Try.results28, go_sem, r0, r1, r2, r3, rf0, rf1, rf2, rf3, gtV]) rfl ⟨rfl, set4 hb (by omega) _ _ _ _⟩
end Go.Proofs.Ytnnhdkchdjddkaa.C
