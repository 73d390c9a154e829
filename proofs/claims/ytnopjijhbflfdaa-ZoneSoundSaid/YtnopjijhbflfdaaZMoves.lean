/- What was done to numbers is done to the zone: Move, Forget, Add, Bound keep those who keep the bounds. -/
import Derived.Test.YtnopjijhbflfdaaZOps2
import Derived.Test.YtnopjijhbflfdaaZAround
import Derived.Test.YtnopjijhbflfdaaZAwake
namespace Go.Proofs.Ytnopjijhbflfdaa.C
open Go.RowKit
set_option linter.unusedSimpArgs false
set_option linter.unusedVariables false
def updf (f : Nat → Int) (a : Nat) (v : Int) : Nat → Int := fun j => if j = a then v else f j
theorem ext_updf (f : Nat → Int) (a : Nat) (v : Int) (i : Nat) : ext (updf f a v) i = if i = a + 1 then v else ext f i := by
  unfold ext updf
  (repeat' split) <;> first | rfl | omega
/-- Who keeps X's bounds but at place i, and there has v. -/
theorem keeps_move {X Y : Nat → Int} {m : Z.M} {n i j : Nat} {c : Int} (h : Z.Keeps X m n) (hij : i ≠ j) (hi : i < n) (hY : ∀ p, p ≠ i → Y p = X p) (hv : Y i = X j + c) : Z.Keeps Y (moveM m i j n c) n := by
  have hj := hY j (fun q => hij q.symm)
  refine Z.Keeps.upd (Z.Keeps.upd (fun p q hp hq => ?_) (fun _ => by omega)) (fun _ => by omega)
  have hc := h.clamp p q hp hq
  unfold Z.LM
  split
  · intro w; omega
  · rename_i w
    intro hlt
    have hc := hc hlt
    by_cases e1 : p = i
    · by_cases e2 : q = i
      · subst e1 e2; omega
      · omega
    · by_cases e2 : q = i
      · omega
      · rw [hY p e1, hY q e2]; exact hc
theorem keeps_self {X Y : Nat → Int} {m : Z.M} {n i : Nat} {c : Int} (h : Z.Keeps X m n) (hi : i < n) (hY : ∀ p, p ≠ i → Y p = X p) (hv : Y i = X i + c) : Z.Keeps Y (selfM m i n c) n := fun p q hp hq => by
  have hc := h.clamp p q hp hq
  have hc1 := h.clamp i q hi hq
  have hc2 := h.clamp p i hp hi
  unfold selfM Z.SM
  split
  · rename_i w
    obtain ⟨rfl, _, w⟩ := w
    have := hY q w
    unfold Z.sumZ
    split
    · intro _; omega
    · intro _; have := hc1 (by omega); omega
  · split
    · rename_i w
      obtain ⟨rfl, _, w⟩ := w
      have := hY p w
      unfold Z.sumZ
      split
      · intro _; omega
      · intro _; have := hc2 (by omega); omega
    · intro hlt
      have hc := hc hlt
      by_cases e1 : p = i
      · by_cases e2 : q = i
        · subst e1 e2; omega
        · omega
      · by_cases e2 : q = i
        · omega
        · rw [hY p e1, hY q e2]; exact hc
theorem keeps_forget {X Y : Nat → Int} {m : Z.M} {n i : Nat} (h : Z.Keeps X m n) (hi : i < n) (hi2 : 1 ≤ i) (hX : X 0 = 0) (hY : ∀ p, p ≠ i → Y p = X p) (hv : -32768 ≤ Y i ∧ Y i ≤ 32767) : Z.Keeps Y (forgetM m i n 3) n := by
  have h0 := hY 0 (by omega)
  have e1 : maxT 3 = 32767 := by decide
  have e2 : minT 3 = -32768 := by decide
  refine Z.Keeps.upd (Z.Keeps.upd (fun p q hp hq => ?_) (fun _ => by omega)) (fun _ => by omega)
  have hc := h.clamp p q hp hq
  unfold Z.LM
  split
  · intro w; omega
  · rename_i w
    intro hlt
    have hc := hc hlt
    by_cases e1 : p = i
    · by_cases e2 : q = i
      · subst e1 e2; omega
      · omega
    · by_cases e2 : q = i
      · omega
      · rw [hY p e1, hY q e2]; exact hc
theorem keeps_add {X : Nat → Int} {m : Z.M} {n i j : Nat} {c : Int} (h : Z.Keeps X m n) (hi : i < n) (hj : j < n) (hv : X i - X j ≤ c) : Z.Keeps X (addM m i j c) n := by
  refine Z.Keeps.upd h.clamp (fun hlt => ?_)
  have := h.clamp i j hi hj
  by_cases e : Z.clampM m i j < 1099511627776
  · have := this e; omega
  · omega
/-- A zone that a call makes, whose bounds X keeps. -/
def SoundPost (X : Nat → Int) (n : Nat) (w : World) (e : Ending) (w' : World) : Prop := Below w.heap.size w w' ∧ ∃ B cap M, e = .returned (.tuple #[.agg #[.slice (some ⟨B, 0, none⟩) n cap], .bool true]) ∧ RM w' ⟨B, 0, none⟩ n M ∧ Z.Keeps X M n
theorem sound_of {X : Nat → Int} {n : Nat} {m : Z.M} {w w' : World} {e : Ending} (h : Z.Keeps X m n) (hp : NewM2 w n (Z.closeM m n) e w') : SoundPost X n w e w' := by
  obtain ⟨hb, ⟨_, B, R, C, cap, rfl, _, hom⟩ | ⟨ok, _⟩⟩ := hp
  · exact ⟨hb, B, cap, _, rfl, hom.rm, h.close⟩
  · rw [h.ok] at ok; cases ok
theorem move_sound (a : Addr) (n cap i j : Nat) (c : Int) (m : Z.M) (X Y : Nat → Int) (w : World) (hn2 : n ≤ 1000) (hm : RM w a n m) (hi : i < n) (hi2 : 1 ≤ i) (hj : j < n) (hc : -1099511627776 ≤ c ∧ c ≤ 1099511627776)
    (h : Z.Keeps X m n) (hY : ∀ p, p ≠ i → Y p = X p) (hv : Y i = X j + c) :
    Calls Try.prog 17 #[.agg #[.slice (some a) n cap], .int .i64 i, .int .i64 j, .int .i64 c] w (SoundPost Y n w) := by
  by_cases e : i = j
  · subst e
    exact (zself_c a n cap i c m w (by omega) hn2 hm hi hi2 hc).mono fun _ _ hp => sound_of (keeps_self h hi hY hv) hp
  · exact (zmove_c a n cap i j c m w (by omega) hn2 hm hi hi2 hj e hc).mono fun _ _ hp => sound_of (keeps_move h e hi hY hv) hp
theorem forget_sound (a : Addr) (n cap i : Nat) (m : Z.M) (X Y : Nat → Int) (w : World) (hn2 : n ≤ 1000) (hm : RM w a n m) (hi : i < n) (hi2 : 1 ≤ i) (h : Z.Keeps X m n) (hX : X 0 = 0) (hY : ∀ p, p ≠ i → Y p = X p) (hv : -32768 ≤ Y i ∧ Y i ≤ 32767) :
    Calls Try.prog 18 #[.agg #[.slice (some a) n cap], .int .i64 i, .int .i64 3] w (SoundPost Y n w) :=
  (zforget_c a n cap i 3 m w (by omega) hn2 hm hi hi2).mono fun _ _ hp => sound_of (keeps_forget h hi hi2 hX hY hv) hp
theorem add_sound (a : Addr) (n cap i j : Nat) (c : Int) (m : Z.M) (X : Nat → Int) (w : World) (hn2 : n ≤ 1000) (hm : RM w a n m) (hi : i < n) (hj : j < n) (hc : -2251799813685248 ≤ c ∧ c ≤ 2251799813685248) (h : Z.Keeps X m n) (hv : X i - X j ≤ c) :
    Calls Try.prog 19 #[.agg #[.slice (some a) n cap], .int .i64 i, .int .i64 j, .int .i64 c] w (SoundPost X n w) :=
  (zadd_c a n cap i j c m w (by omega) hn2 hm hi hj hc).mono fun _ _ hp => sound_of (keeps_add h hi hj hv) hp
set_option maxRecDepth 100000 in
set_option maxHeartbeats 3200000 in
theorem zbound_c (a : Addr) (n cap i : Nat) (m : Z.M) (w : World) (hn2 : n ≤ 1000) (hm : RM w a n m) (hi : i < n) (hf : Z.Fit m n) :
    Calls Try.prog 20 #[.agg #[.slice (some a) n cap], .int .i64 i] w fun e w' => e = .returned (.agg #[.int .i64 (-(m 0 i)), .int .i64 (m i 0)]) ∧ Below w.heap.size w w' := by
  have HM := Lib.hid hm
  clear hm
  go_enter Try.func20, Try.ntmps20
  go_upto_region 1 with fail
  refine at_world (fun W => Hid (Below w.heap.size w W ∧ W.heap.size = w.heap.size + 1 + 1) ∧ (∀ o, W.cell? ⟨w.heap.size, o, none⟩ = [Value.slice (some a) n cap][o]?) ∧ (∀ o, W.cell? ⟨w.heap.size + 1, o, none⟩ = [Value.int .i64 0, Value.int .i64 0][o]?) ∧ (∀ o, W.frozen? ⟨w.heap.size + 1, o, none⟩ = false)) ⟨Lib.hid ⟨(by repeat' (first | exact Below.refl _ _ | (refine Below.alloc ?_ ?_ _) | (refine Below.setCell ?_ ?_ _) | (refine Below.drew ?_) | (refine below_next ?_ ?_ (by assumption)) | omega | (simp; done) | (simp; omega))), by simp⟩, (by intro o; simp [go_sem]), (by intro o; simp [go_sem]), (by intro o; simp [go_sem])⟩ ?_
  intro W0 ⟨HB0, k0, k1, f1⟩
  have hs0 : w.heap.size < W0.heap.size := by have := HB0.out.2; omega
  have hs1 : w.heap.size + 1 < W0.heap.size := by have := HB0.out.2; omega
  have HA1 := fun W => has_in (some a) n cap i hi W
  go_upto_region 3 with (go_at_call 39; refine (HA1 _).mono ?_; clear HA1; rintro e w' ⟨rfl, rfl⟩)
  refine at_world (fun W => Hid (Below w.heap.size w W) ∧ w.heap.size < W.heap.size ∧ (∀ o, W.cell? ⟨w.heap.size, o, none⟩ = [Value.slice (some a) n cap][o]?) ∧ (∀ o, W.cell? ⟨w.heap.size + 1, o, none⟩ = [Value.int .i64 0, Value.int .i64 0][o]?) ∧ (∀ o, W.frozen? ⟨w.heap.size + 1, o, none⟩ = false)) ⟨Lib.hid (HB0.out.1.alloc HB0.out.1.size _), by simp; omega, fun o => (((Below.refl _ _).alloc (Nat.le_refl _) _).cell (p := ⟨w.heap.size, o, none⟩) hs0).trans (k0 o), fun o => (((Below.refl _ _).alloc (Nat.le_refl _) _).cell (p := ⟨w.heap.size + 1, o, none⟩) hs1).trans (k1 o), fun o => (((Below.refl _ _).alloc (Nat.le_refl _) _).frozen (p := ⟨w.heap.size + 1, o, none⟩) hs1).trans (f1 o)⟩ ?_
  clear k0 k1 f1 hs0 hs1 HB0 W0
  intro W ⟨HB, hsz, k0, k1, f1⟩
  obtain ⟨R, C, h1, h2⟩ := HM.out.below HB.out
  have c1 := (h1 i hi).1
  have c2 := (h1 0 (by omega)).1
  have c3 := h2 0 i (by omega) hi
  have c4 := h2 i 0 hi (by omega)
  have b3 := hf 0 i (by omega) hi
  have k00 := k0 0
  simp at k00
  obtain ⟨x, hx⟩ : ∃ x, m 0 i = x := ⟨_, rfl⟩
  obtain ⟨y, hy⟩ : ∃ x, m i 0 = x := ⟨_, rfl⟩
  rw [hx] at c3 b3
  rw [hy] at c4
  have HV := Lib.hid (And.intro hx hy)
  have ez : ∀ q : Addr, q.add 0 = q := fun q => by unfold Addr.add; rw [if_pos rfl]
  rw [ez] at c2 c4
  have hi0 : (0 : Int) ≤ (i : Int) := by omega
  have hi1 : (i : Int) < (n : Int) := by omega
  have hz2 : 0 < n := by omega
  have ec : IntKind.i64.wrap (-x) = -x := IntWalk.i64_in _ (by omega)
  clear h1 h2 hx hy ez
  go_still_tail 16, (by kernel_rfl)
  go_wp2_with fail
  exact bodyPost_ret (v := .agg #[.int .i64 (-x), .int .i64 y]) (by simp [results, Try.results20, go_sem, *]) rfl ⟨by rw [HV.out.1, HV.out.2], HB.out.drew.setCell (by show w.heap.size ≤ w.heap.size + 1; omega) _ |>.setCell (by show w.heap.size ≤ w.heap.size + 1; omega) _⟩
end Go.Proofs.Ytnopjijhbflfdaa.C
