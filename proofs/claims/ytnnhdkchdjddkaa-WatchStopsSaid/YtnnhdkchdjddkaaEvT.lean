/- eval.two: walk (printed by gen_ev.py). -/
import Derived.Test.YtnnhdkchdjddkaaEvN
namespace Go.Proofs.Ytnnhdkchdjddkaa.C
open Go.RowKit
set_option linter.unusedSimpArgs false
set_option linter.unusedVariables false
/-- Inside two. -/
structure TwI (w W : World) (n : Ex) (a b : Gt) : Prop where
  hb : Below w.heap.size w W
  b7 : Bx7 W w.heap.size 0 n
  a4 : Bx4 W (w.heap.size + 1) a
  b4 : Bx4 W (w.heap.size + 1 + 1) b
  r4 : Bx4 W (w.heap.size + 1 + 1 + 1) ⟨0, 0, 0, 0⟩
theorem TwI.below {w W W' : World} {n : Ex} {a b : Gt} (h : TwI w W n a b) (hb : Below W.heap.size W W') : TwI w W' n a b :=
  ⟨below_next h.hb h.hb.size hb, h.b7.below hb, h.a4.below hb, h.b4.below hb, h.r4.below hb⟩
set_option maxRecDepth 100000 in
set_option maxHeartbeats 6400000 in
theorem etwo_c (n : Ex) (a b : Gt) (w : World) :
    Calls Try.prog 30 #[exA n, gtV a, gtV b] w fun e' w' => e' = .returned (gtV (twoP n.k n.at_ a b)) ∧ Below w.heap.size w w' := by
  obtain ⟨T, hT⟩ : ∃ x, mixT n.k a.t b.t = x := ⟨_, rfl⟩
  obtain ⟨x, hx⟩ : ∃ x, wrapT T a.v = x := ⟨_, rfl⟩
  obtain ⟨y, hy⟩ : ∃ x, wrapT T b.v = x := ⟨_, rfl⟩
  obtain ⟨z, hz⟩ : ∃ z, (if n.k = 16 ∨ n.k = 17 then b.v else y) = z := ⟨_, rfl⟩
  obtain ⟨⟨rv, ru⟩, hr⟩ : ∃ r, doI n.k T x z = r := ⟨_, rfl⟩
  have HP : Hid (twoP n.k n.at_ a b = if ru = 0 then ⟨rv, T, 0, 0⟩ else ⟨0, T, ru, n.at_⟩) := Lib.hid (by
    unfold twoP
    simp only [hT, hx, hy, hz, hr])
  have LM : ∀ W, Calls Try.prog 21 #[.int .i64 n.k, .int .i64 a.t, .int .i64 b.t] W fun e w' => e = .returned (.int .i64 T) ∧ W = w' := fun W => by have := mixed_c n.k a.t b.t W; rwa [hT] at this
  have LX : ∀ W, Calls Try.prog 23 #[.int .i64 T, .int .i64 a.v] W fun e w' => e = .returned (.int .i64 x) ∧ W = w' := fun W => by have := wrap_c T a.v W; rwa [hx] at this
  have LY : ∀ W, Calls Try.prog 23 #[.int .i64 T, .int .i64 b.v] W fun e w' => e = .returned (.int .i64 y) ∧ W = w' := fun W => by have := wrap_c T b.v W; rwa [hy] at this
  have LD : ∀ W, Calls Try.prog 42 #[.int .i64 n.k, .int .i64 T, .int .i64 x, .int .i64 z] W fun e w' => e = .returned (.tuple #[.int .i64 rv, .int .i64 ru]) ∧ W = w' := fun W => by have := do_c n.k T x z W; rwa [hr] at this
  clear hT hx hy hr
  unfold exA gtV
  obtain ⟨gt, hgt⟩ : ∃ q, twoP n.k n.at_ a b = q := ⟨_, rfl⟩
  rw [hgt] at HP ⊢
  clear hgt
  go_enter Try.func30, Try.ntmps30
  go_upto_region 1 with fail
  refine at_world (fun W => TwI w W n a b) ⟨(by repeat' (first | exact Below.refl _ _ | (refine Below.alloc ?_ ?_ _) | (refine Below.setCell ?_ ?_ _) | (refine Below.drew ?_) | (refine below_next ?_ ?_ (by assumption)) | omega | (simp; done) | (simp; omega))), ⟨by first | (simp; done) | (simp; omega), by simp [go_sem], by simp [go_sem], by simp [go_sem], by simp [go_sem], by simp [go_sem], by simp [go_sem], by simp [go_sem]⟩, ⟨by first | (simp; done) | (simp; omega), by simp [go_sem], by simp [go_sem], by simp [go_sem], by simp [go_sem], by simp [go_sem], by simp [go_sem], by simp [go_sem], by simp [go_sem]⟩, ⟨by first | (simp; done) | (simp; omega), by simp [go_sem], by simp [go_sem], by simp [go_sem], by simp [go_sem], by simp [go_sem], by simp [go_sem], by simp [go_sem], by simp [go_sem]⟩, ⟨by first | (simp; done) | (simp; omega), by simp [go_sem], by simp [go_sem], by simp [go_sem], by simp [go_sem], by simp [go_sem], by simp [go_sem], by simp [go_sem], by simp [go_sem]⟩⟩ ?_
  intro W0 N0
  have N := Lib.hid N0
  have n0 := (N0.b7).c0; have n1 : _ = _ := (N0.b7).box1; have n2 := (N0.b7).box2; have n3 := (N0.b7).box3; have n4 := (N0.b7).box4; have n5 := (N0.b7).box5; have n6 := (N0.b7).box6; have x0 := (N0.a4).c0; have x1 := (N0.a4).c1; have x2 := (N0.a4).c2; have x3 := (N0.a4).c3; have xf0 := (N0.a4).f0; have xf1 := (N0.a4).f1; have xf2 := (N0.a4).f2; have xf3 := (N0.a4).f3; have y0 := (N0.b4).c0; have y1 := (N0.b4).c1; have y2 := (N0.b4).c2; have y3 := (N0.b4).c3; have yf0 := (N0.b4).f0; have yf1 := (N0.b4).f1; have yf2 := (N0.b4).f2; have yf3 := (N0.b4).f3; have r0 := (N0.r4).c0; have r1 := (N0.r4).c1; have r2 := (N0.r4).c2; have r3 := (N0.r4).c3; have rf0 := (N0.r4).f0; have rf1 := (N0.r4).f1; have rf2 := (N0.r4).f2; have rf3 := (N0.r4).f3
  clear N0
  go_upto_region 2 with (go_at_call 21; refine (LM _).mono ?_; rintro e' w' ⟨rfl, rfl⟩; clear LM)
  have d0 := fun (x' : WIn (Below W0.heap.size W0)) => cell_later x'.h x0
  have d1 := fun (x' : WIn (Below W0.heap.size W0)) => cell_later x'.h y0
  refine region_in (Below W0.heap.size W0) (by kernel_rfl) (by kernel_rfl) (Below.refl _ _).drew (fun inst => ?_)
  iterate 8 (go_big_quiet_step ((go_at_call 23; exact call_same _ (LX _))))
  refine wpQuiet_nil ?_
  intro wd hbd
  have N0 := N.out.below hbd
  clear N n0 n1 n2 n3 n4 n5 n6 x0 x1 x2 x3 xf0 xf1 xf2 xf3 y0 y1 y2 y3 yf0 yf1 yf2 yf3 r0 r1 r2 r3 rf0 rf1 rf2 rf3 d0 d1 LX hbd
  have n0 := (N0.b7).c0; have n1 : _ = _ := (N0.b7).box1; have n2 := (N0.b7).box2; have n3 := (N0.b7).box3; have n4 := (N0.b7).box4; have n5 := (N0.b7).box5; have n6 := (N0.b7).box6; have x0 := (N0.a4).c0; have x1 := (N0.a4).c1; have x2 := (N0.a4).c2; have x3 := (N0.a4).c3; have xf0 := (N0.a4).f0; have xf1 := (N0.a4).f1; have xf2 := (N0.a4).f2; have xf3 := (N0.a4).f3; have y0 := (N0.b4).c0; have y1 := (N0.b4).c1; have y2 := (N0.b4).c2; have y3 := (N0.b4).c3; have yf0 := (N0.b4).f0; have yf1 := (N0.b4).f1; have yf2 := (N0.b4).f2; have yf3 := (N0.b4).f3; have r0 := (N0.r4).c0; have r1 := (N0.r4).c1; have r2 := (N0.r4).c2; have r3 := (N0.r4).c3; have rf0 := (N0.r4).f0; have rf1 := (N0.r4).f1; have rf2 := (N0.r4).f2; have rf3 := (N0.r4).f3
  have hb := N0.hb
  clear N0
  obtain ⟨k, hk⟩ : ∃ k, n.k = k := ⟨_, rfl⟩
  rw [hk] at n0 LD hz
  clear hk
  have HPP : (ru = 0 ∧ Hid (gt = ⟨rv, T, 0, 0⟩)) ∨ ((ru == 0) = false ∧ Hid (gt = ⟨0, T, ru, n.at_⟩)) := by
    by_cases hu : ru = 0
    · exact .inl ⟨hu, Lib.hid (by have := HP.out; rwa [if_pos hu] at this)⟩
    · exact .inr ⟨by rw [beq_eq_false_iff_ne]; exact hu, Lib.hid (by have := HP.out; rwa [if_neg hu] at this)⟩
  clear HP
  by_cases hs : k = 16 ∨ k = 17
  · rw [if_pos hs] at hz
    subst hz
    clear LY
    rcases hs with rfl | rfl
    all_goals rcases HPP with ⟨rfl, HG⟩ | ⟨g3, HG⟩
    all_goals go_wp2_with (go_at_call 42; refine (LD _).mono ?_; rintro e' w' ⟨rfl, rfl⟩; clear LD)
    all_goals have HE := HG.out
    all_goals subst HE
    all_goals first | exact bodyPost_ret (v := gtV ⟨rv, T, 0, 0⟩) (by simp [results, Try.results30, go_sem, r0, r1, r2, r3, rf0, rf1, rf2, rf3, gtV]) rfl ⟨rfl, set4 hb (by omega) _ _ _ _⟩ | exact bodyPost_ret (v := gtV ⟨0, T, ru, n.at_⟩) (by simp [results, Try.results30, go_sem, r0, r1, r2, r3, rf0, rf1, rf2, rf3, gtV]) rfl ⟨rfl, set4 hb (by omega) _ _ _ _⟩
  · rw [if_neg hs] at hz
    subst hz
    have g1 : (k == 16) = false := by rw [beq_eq_false_iff_ne]; omega
    have g2 : (k == 17) = false := by rw [beq_eq_false_iff_ne]; omega
    have g1' : (k != 16) = true := by rw [bne, g1]; rfl
    have g2' : (k != 17) = true := by rw [bne, g2]; rfl
    have hk16 : ¬ k = 16 := by omega
    have hk17 : ¬ k = 17 := by omega
    clear hs
    rcases HPP with ⟨rfl, HG⟩ | ⟨g3, HG⟩
    all_goals go_wp2_with (first | (go_at_call 23; refine (LY _).mono ?_; rintro e' w' ⟨rfl, rfl⟩; clear LY) | (go_at_call 42; refine (LD _).mono ?_; rintro e' w' ⟨rfl, rfl⟩; clear LD))
    all_goals have HE := HG.out
    all_goals subst HE
    all_goals first | exact bodyPost_ret (v := gtV ⟨rv, T, 0, 0⟩) (by simp [results, Try.results30, go_sem, r0, r1, r2, r3, rf0, rf1, rf2, rf3, gtV]) rfl ⟨rfl, set4 hb (by omega) _ _ _ _⟩ | exact bodyPost_ret (v := gtV ⟨0, T, ru, n.at_⟩) (by simp [results, Try.results30, go_sem, r0, r1, r2, r3, rf0, rf1, rf2, rf3, gtV]) rfl ⟨rfl, set4 hb (by omega) _ _ _ _⟩
end Go.Proofs.Ytnnhdkchdjddkaa.C
