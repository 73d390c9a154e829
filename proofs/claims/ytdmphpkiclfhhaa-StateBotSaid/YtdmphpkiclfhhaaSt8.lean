/- state.both, Join, Widen with nothing: walks. -/
import Derived.Test.YtdmphpkiclfhhaaSt7
import Derived.Test.YtdmphpkiclfhhaaStLay
namespace Go.Proofs.Ytdmphpkiclfhhaa.C
open Go.RowKit
set_option linter.unusedSimpArgs false
set_option linter.unusedVariables false
attribute [local go_sem] fieldItv0 fieldItv1
set_option maxRecDepth 100000 in
set_option maxHeartbeats 3200000 in
theorem both_bs (f g : Value) (a : Addr) (B : Option Addr) (n zc m c2 : Nat) (M : Z.M) (ln : Nat → Nat) (rr : Nat → Nat → Int × Int) (w : World) (hn : 1 ≤ n) (hn2 : n ≤ 1000) (hm : m ≤ 1000) (hM : RM w a n M) (hC : CC w B m ln rr) :
    Calls Try.prog 43 #[.agg #[.bool true, .slice none 0 0, .slice none 0 0], .agg #[.bool false, .slice (some a) n zc, .slice B m c2], f, g] w (CopySt n m M ln rr w) := by
  have HM := Lib.hid hM
  have HC := Lib.hid hC
  clear hM hC
  go_enter Try.func43, Try.ntmps43
  go_upto_region 2 with fail
  refine at_world (fun W => Hid (Below w.heap.size w W ∧ w.heap.size + 1 + 1 < W.heap.size ∧ (∀ o, W.cell? ⟨w.heap.size + 1 + 1, o, none⟩ = [Value.bool false, Value.slice none 0 0, Value.slice none 0 0][o]?) ∧ (∀ o, W.frozen? ⟨w.heap.size + 1 + 1, o, none⟩ = false)) ∧ (∀ o, W.cell? ⟨w.heap.size + 1, o, none⟩ = [Value.bool false, Value.slice (some a) n zc, Value.slice B m c2][o]?)) ⟨Lib.hid ⟨(by repeat' (first | exact Below.refl _ _ | (refine Below.alloc ?_ ?_ _) | (refine Below.setCell ?_ ?_ _) | (refine Below.drew ?_) | (refine below_next ?_ ?_ (by assumption)) | omega | (simp; done) | (simp; omega))), by simp, (by intro o; simp [go_sem]), (by intro o; simp [go_sem])⟩, (by intro o; simp [go_sem])⟩ ?_
  intro W0 ⟨H0, k1⟩
  go_wp2_with (go_at_call 58; refine (stCopy_c a B n zc m c2 M ln rr _ hn hn2 hm (HM.out.below H0.out.1) (HC.out.below H0.out.1)).mono ?_; rintro e w2 ⟨zb, R, C, B', rfl, h1, h2, h3⟩; have q0 := fun o => (h3.cell (p := ⟨w.heap.size + 1 + 1, o, none⟩) H0.out.2.1).trans (H0.out.2.2.1 o); have f0 := fun o => (h3.frozen (p := ⟨w.heap.size + 1 + 1, o, none⟩) H0.out.2.1).trans (H0.out.2.2.2 o); have HP : Hid (CopySt n m M ln rr W0 (.returned (.agg #[.bool false, .slice (some ⟨zb, 0, none⟩) n n, .slice B' m m])) w2) := Lib.hid ⟨zb, R, C, B', rfl, h1, h2, h3⟩; clear h1 h2 h3; have x0 := q0 0; have x1 := q0 1; have x2 := q0 2; simp at x0 x1 x2)
  exact bodyPost_ret (v := .agg #[.bool false, .slice (some ⟨zb, 0, none⟩) n n, .slice B' m m]) (by simp [results, Try.results43, go_sem, *]) rfl (HP.out.put H0.out.1 (by omega) H0.out.2.1 _ _ _)
set_option maxRecDepth 100000 in
set_option maxHeartbeats 3200000 in
theorem join_bs (a : Addr) (B : Option Addr) (n zc m c2 : Nat) (M : Z.M) (ln : Nat → Nat) (rr : Nat → Nat → Int × Int) (w : World) (hn : 1 ≤ n) (hn2 : n ≤ 1000) (hm : m ≤ 1000) (hM : RM w a n M) (hC : CC w B m ln rr) :
    Calls Try.prog 22 #[.agg #[.bool true, .slice none 0 0, .slice none 0 0], .agg #[.bool false, .slice (some a) n zc, .slice B m c2]] w (CopySt n m M ln rr w) := by
  have HM := Lib.hid hM
  have HC := Lib.hid hC
  clear hM hC
  go_enter Try.func22, Try.ntmps22
  go_upto_region 2 with fail
  refine at_world (fun W => Hid (Below w.heap.size w W ∧ w.heap.size + 1 + 1 < W.heap.size ∧ (∀ o, W.cell? ⟨w.heap.size + 1 + 1, o, none⟩ = [Value.bool false, Value.slice none 0 0, Value.slice none 0 0][o]?) ∧ (∀ o, W.frozen? ⟨w.heap.size + 1 + 1, o, none⟩ = false)) ∧ (∀ o, W.cell? ⟨w.heap.size, o, none⟩ = [Value.bool true, Value.slice none 0 0, Value.slice none 0 0][o]?) ∧ (∀ o, W.cell? ⟨w.heap.size + 1, o, none⟩ = [Value.bool false, Value.slice (some a) n zc, Value.slice B m c2][o]?)) ⟨Lib.hid ⟨(by repeat' (first | exact Below.refl _ _ | (refine Below.alloc ?_ ?_ _) | (refine Below.setCell ?_ ?_ _) | (refine Below.drew ?_) | (refine below_next ?_ ?_ (by assumption)) | omega | (simp; done) | (simp; omega))), by simp, (by intro o; simp [go_sem]), (by intro o; simp [go_sem])⟩, (by intro o; simp [go_sem]), (by intro o; simp [go_sem])⟩ ?_
  intro W0 ⟨H0, k0, k1⟩
  go_wp2_with (go_at_call 43; refine (both_bs _ _ a B n zc m c2 M ln rr _ hn hn2 hm (HM.out.below H0.out.1) (HC.out.below H0.out.1)).mono ?_; rintro e w2 ⟨zb, R, C, B', rfl, h1, h2, h3⟩; have q0 := fun o => (h3.cell (p := ⟨w.heap.size + 1 + 1, o, none⟩) H0.out.2.1).trans (H0.out.2.2.1 o); have f0 := fun o => (h3.frozen (p := ⟨w.heap.size + 1 + 1, o, none⟩) H0.out.2.1).trans (H0.out.2.2.2 o); have HP : Hid (CopySt n m M ln rr W0 (.returned (.agg #[.bool false, .slice (some ⟨zb, 0, none⟩) n n, .slice B' m m])) w2) := Lib.hid ⟨zb, R, C, B', rfl, h1, h2, h3⟩; clear h1 h2 h3 k0 k1; have x0 := q0 0; have x1 := q0 1; have x2 := q0 2; simp at x0 x1 x2)
  exact bodyPost_ret (v := .agg #[.bool false, .slice (some ⟨zb, 0, none⟩) n n, .slice B' m m]) (by simp [results, Try.results22, go_sem, *]) rfl (HP.out.put H0.out.1 (by omega) H0.out.2.1 _ _ _)
set_option maxRecDepth 100000 in
set_option maxHeartbeats 3200000 in
theorem widen_bot (A B : Option Addr) (n m c1 c2 : Nat) (nm : Nat → ByteArray) (vt vs vi : Nat → Int) (w : World) (hn : n ≤ 1000) (hv : BR w A n nm vt vs vi) :
    Calls Try.prog 11 #[.agg #[.bool true, .slice none 0 0, .slice none 0 0], .agg #[.bool true, .slice none 0 0, .slice none 0 0], .agg #[.slice A n c1, .slice B m c2]] w fun e w' => e = .returned (.agg #[.bool true, .slice none 0 0, .slice none 0 0]) ∧ Below w.heap.size w w' := by
  have HV := Lib.hid hv
  clear hv
  go_enter Try.func11, Try.ntmps11
  go_upto_region 1 with fail
  refine at_world (fun W => Hid (Below w.heap.size w W ∧ W.heap.size = w.heap.size + 4) ∧ (∀ o, W.cell? ⟨w.heap.size, o, none⟩ = [Value.bool true, Value.slice none 0 0, Value.slice none 0 0][o]?) ∧ (∀ o, W.cell? ⟨w.heap.size + 1, o, none⟩ = [Value.bool true, Value.slice none 0 0, Value.slice none 0 0][o]?) ∧ (∀ o, W.cell? ⟨w.heap.size + 1 + 1, o, none⟩ = [Value.slice A n c1, Value.slice B m c2][o]?) ∧ Hid ((∀ o, W.cell? ⟨w.heap.size + 1 + 1 + 1, o, none⟩ = [Value.bool false, Value.slice none 0 0, Value.slice none 0 0][o]?) ∧ (∀ o, W.frozen? ⟨w.heap.size + 1 + 1 + 1, o, none⟩ = false))) ⟨Lib.hid ⟨(by repeat' (first | exact Below.refl _ _ | (refine Below.alloc ?_ ?_ _) | (refine Below.setCell ?_ ?_ _) | (refine Below.drew ?_) | (refine below_next ?_ ?_ (by assumption)) | omega | (simp; done) | (simp; omega))), by simp⟩, (by intro o; simp [go_sem]), (by intro o; simp [go_sem]), (by intro o; simp [go_sem]), Lib.hid ⟨(by intro o; simp [go_sem]), (by intro o; simp [go_sem])⟩⟩ ?_
  intro W0 ⟨H0, k0, k1, k2, H3⟩
  have hz0 := H0.out.2
  go_upto_region 2 with (go_at_call 40; refine (tys_c A B n m c1 c2 nm vt vs vi _ hn (HV.out.below H0.out.1)).mono ?_; rintro e w1 ⟨A', c', rfl, _, hb⟩; have hbz := hb.size; replace k0 := fun o => (hb.cell (p := ⟨w.heap.size, o, none⟩) (by show w.heap.size < _; omega)).trans (k0 o); replace k1 := fun o => (hb.cell (p := ⟨w.heap.size + 1, o, none⟩) (by show w.heap.size + 1 < _; omega)).trans (k1 o); have q3 := fun o => (hb.cell (p := ⟨w.heap.size + 1 + 1 + 1, o, none⟩) (by show w.heap.size + 1 + 1 + 1 < _; omega)).trans (H3.out.1 o); have f3 := fun o => (hb.frozen (p := ⟨w.heap.size + 1 + 1 + 1, o, none⟩) (by show w.heap.size + 1 + 1 + 1 < _; omega)).trans (H3.out.2 o); have HB := Lib.hid (below_next H0.out.1 H0.out.1.size hb); clear k2 hb)
  refine at_world (fun W => Hid (Below w.heap.size w W ∧ w.heap.size + 1 + 1 + 1 < W.heap.size) ∧ (∀ o, W.cell? ⟨w.heap.size, o, none⟩ = [Value.bool true, Value.slice none 0 0, Value.slice none 0 0][o]?) ∧ (∀ o, W.cell? ⟨w.heap.size + 1, o, none⟩ = [Value.bool true, Value.slice none 0 0, Value.slice none 0 0][o]?) ∧ Hid ((∀ o, W.cell? ⟨w.heap.size + 1 + 1 + 1, o, none⟩ = [Value.bool false, Value.slice none 0 0, Value.slice none 0 0][o]?) ∧ (∀ o, W.frozen? ⟨w.heap.size + 1 + 1 + 1, o, none⟩ = false))) ⟨Lib.hid ⟨HB.out.alloc HB.out.size _, by simp; omega⟩, fun o => (((Below.refl w1.heap.size w1).alloc (Nat.le_refl _) _).cell (p := ⟨w.heap.size, o, none⟩) (by show w.heap.size < _; omega)).trans (k0 o), fun o => (((Below.refl w1.heap.size w1).alloc (Nat.le_refl _) _).cell (p := ⟨w.heap.size + 1, o, none⟩) (by show w.heap.size + 1 < _; omega)).trans (k1 o), Lib.hid ⟨fun o => (((Below.refl w1.heap.size w1).alloc (Nat.le_refl _) _).cell (p := ⟨w.heap.size + 1 + 1 + 1, o, none⟩) (by show w.heap.size + 1 + 1 + 1 < _; omega)).trans (q3 o), fun o => (((Below.refl w1.heap.size w1).alloc (Nat.le_refl _) _).frozen (p := ⟨w.heap.size + 1 + 1 + 1, o, none⟩) (by show w.heap.size + 1 + 1 + 1 < _; omega)).trans (f3 o)⟩⟩ ?_
  obtain ⟨b1, hb1⟩ : ∃ b, w1.heap.size = b := ⟨_, rfl⟩
  simp only [hb1]
  clear k0 k1 H3 q3 f3 hz0 hbz hb1 HB
  intro W1 ⟨H1, k0, k1, H3⟩
  go_wp2_with (go_at_call 43; refine (both_bot _ _ _).mono ?_; rintro e w2 ⟨rfl, hb⟩; have q0 := fun o => (hb.cell (p := ⟨w.heap.size + 1 + 1 + 1, o, none⟩) H1.out.2).trans (H3.out.1 o); have f0 := fun o => (hb.frozen (p := ⟨w.heap.size + 1 + 1 + 1, o, none⟩) H1.out.2).trans (H3.out.2 o); have HB := Lib.hid (below_next H1.out.1 H1.out.1.size hb); clear hb k0 k1; have x0 := q0 0; have x1 := q0 1; have x2 := q0 2; simp at x0 x1 x2)
  exact bodyPost_ret (v := .agg #[.bool true, .slice none 0 0, .slice none 0 0]) (by simp [results, Try.results11, go_sem, *]) rfl ⟨rfl, ((HB.out.setCell (p := ⟨w.heap.size + 1 + 1 + 1, 0, none⟩) (by show w.heap.size ≤ w.heap.size + 1 + 1 + 1; omega) _).setCell (p := ⟨w.heap.size + 1 + 1 + 1, 1, none⟩) (by show w.heap.size ≤ w.heap.size + 1 + 1 + 1; omega) _).setCell (p := ⟨w.heap.size + 1 + 1 + 1, 2, none⟩) (by show w.heap.size ≤ w.heap.size + 1 + 1 + 1; omega) _⟩
theorem ne_I16 (sz : Nat → Int) (m : Nat) : anyEE (topLn sz) (topRr fun _ => 3) m = false := by
  rw [← Bool.not_eq_true, anyEE_spec]
  rintro ⟨i, _, h⟩
  rw [anyE_spec] at h
  obtain ⟨j, _, h⟩ := h
  exact absurd h (by show ¬ (ofI 3).2 < (ofI 3).1; decide)
end Go.Proofs.Ytdmphpkiclfhhaa.C
