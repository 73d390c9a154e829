/- ItvWidens: walk. -/
import Derived.Test.YtjimfbkmfajkcabLaw14
import Derived.Test.YtjimfbkmfajkcabOpen
import Derived.Test.YtjimfbkmfajkcabRefTyp
import Derived.BigFrame
import Derived.BigGuard
import Derived.Deep.CutBlock
import Derived.Lib.Hide
namespace Go.Proofs.Ytjimfbkmfajkcab.C
open Go.RowKit
set_option linter.unusedSimpArgs false
set_option linter.unusedVariables false
attribute [local go_sem] fieldItv0 fieldItv1
/-- What is so of the interval and of the number of steps, in each round. -/
def WInv (k x y s : Int) : Prop := (x = 0 ∨ x = minT k) ∧ (y = 0 ∨ y = maxT k) ∧ s = (if x = 0 then 0 else 1) + (if y = 0 then 0 else 1)
theorem wrapT_in (k : Int) (hk : 1 ≤ k ∧ k ≤ 6) (n : Int) : minT k ≤ wrapT k n ∧ wrapT k n ≤ maxT k := by
  obtain rfl | rfl | rfl | rfl | rfl | rfl : k = 1 ∨ k = 2 ∨ k = 3 ∨ k = 4 ∨ k = 5 ∨ k = 6 := by omega
  all_goals
    simp only [wrapT, minT, maxT]
    simp only [Int.reduceEq, if_true, if_false]
    omega
theorem mm (k : Int) (hk : 1 ≤ k ∧ k ≤ 6) : minT k ≤ 0 ∧ 0 < maxT k ∧ ofI k = (minT k, maxT k) := by
  obtain rfl | rfl | rfl | rfl | rfl | rfl : k = 1 ∨ k = 2 ∨ k = 3 ∨ k = 4 ∨ k = 5 ∨ k = 6 := by omega
  all_goals decide
theorem winv_step {k x y s v : Int} (hk : 1 ≤ k ∧ k ≤ 6) (h : WInv k x y s) (hv : minT k ≤ v ∧ v ≤ maxT k) :
    ∃ j1 j2 m1 m2 o1 o2 : Int, joinI x y v v = (j1, j2) ∧ widenI x y j1 j2 k = (m1, m2) ∧ ofI k = (o1, o2) ∧ leI x y m1 m2 = true ∧ leI j1 j2 m1 m2 = true ∧ leI m1 m2 o1 o2 = true ∧
      ((m1 = x ∧ m2 = y) ∨ ((¬ (m1 = x ∧ m2 = y)) ∧ WInv k m1 m2 (s + 1) ∧ 0 ≤ s ∧ s ≤ 2)) := by
  obtain ⟨hm, hM, ho⟩ := mm k hk
  obtain ⟨h1, h2, h3⟩ := h
  have hxy : x ≤ 0 ∧ 0 ≤ y ∧ minT k ≤ x ∧ y ≤ maxT k := by omega
  have ej : joinI x y v v = (min x v, max y v) := by
    unfold joinI
    rw [if_neg (by omega), if_neg (by omega)]
  have ew : widenI x y (min x v) (max y v) k = (if v < x then minT k else x, if y < v then maxT k else y) := by
    unfold widenI
    rw [if_neg (by omega), if_neg (by omega), ho]
    simp only
    have q1 : (if min x v < x then minT k else x) = (if v < x then minT k else x) := by split <;> split <;> omega
    have q2 : (if y < max y v then maxT k else y) = (if y < v then maxT k else y) := by split <;> split <;> omega
    rw [q1, q2]
    unfold toldI
    rw [if_neg (by split <;> split <;> omega)]
  refine ⟨_, _, _, _, _, _, ej, ew, ho, ?_, ?_, ?_, ?_⟩
  · unfold leI; rw [decide_eq_true_eq]; right; split <;> split <;> omega
  · unfold leI; rw [decide_eq_true_eq]; right; split <;> split <;> omega
  · unfold leI; rw [decide_eq_true_eq]; right; split <;> split <;> omega
  · by_cases c1 : v < x
    · rw [if_pos c1, if_neg (by omega : ¬ y < v)]
      right
      have hx : x = 0 := by omega
      subst hx
      refine ⟨by omega, ⟨.inr rfl, h2, ?_⟩, ?_⟩
      · rw [h3, if_pos rfl, if_neg (by omega : ¬ minT k = 0)]; omega
      · rw [h3]; split <;> split <;> omega
    · rw [if_neg c1]
      by_cases c2 : y < v
      · rw [if_pos c2]
        right
        have hy : y = 0 := by omega
        subst hy
        refine ⟨by omega, ⟨h1, .inr rfl, ?_⟩, ?_⟩
        · rw [h3, if_pos rfl, if_neg (by omega : ¬ maxT k = 0)]; omega
        · rw [h3]; split <;> split <;> omega
      · rw [if_neg c2]
        exact .inl ⟨rfl, rfl⟩
theorem winv_le {k x y s : Int} (h : WInv k x y s) : s ≤ 2 ∧ 0 ≤ s := by
  rw [h.2.2]; split <;> split <;> omega
theorem mod6 (t : Int) (h : 0 ≤ t ∧ t ≤ 255) : 1 ≤ 1 + t % 6 ∧ 1 + t % 6 ≤ 6 := by omega
/-- A block of two numbers. -/
def Box (b : Nat) (wr : World) (x y : Int) : Prop := b < wr.heap.size ∧ (∀ o, wr.cell? ⟨b, o, none⟩ = [Value.int .i64 x, Value.int .i64 y][o]?) ∧ (∀ o, wr.frozen? ⟨b, o, none⟩ = false)
theorem Box.below {b : Nat} {wr w' : World} {x y : Int} (h : Box b wr x y) (hb : Below wr.heap.size wr w') : Box b w' x y :=
  ⟨Nat.lt_of_lt_of_le h.1 hb.size, fun o => (hb.cell (p := ⟨b, o, none⟩) h.1).trans (h.2.1 o), fun o => (hb.frozen (p := ⟨b, o, none⟩) h.1).trans (h.2.2 o)⟩
theorem Box.new (w : World) (t : TypeId) (x y : Int) : Box w.heap.size (w.alloc (.cells #[.int .i64 x, .int .i64 y] t)) x y := ⟨by simp, by intro o; simp [go_sem], by intro o; simp [go_sem]⟩
theorem Box.put {b : Nat} {wr : World} {x y : Int} (h : Box b wr x y) (x' y' : Int) : Box b ((wr.setCell ⟨b, 0, none⟩ (.int .i64 x')).setCell ⟨b, 1, none⟩ (.int .i64 y')) x' y' := by
  have h0 : wr.cell? ⟨b, 0, none⟩ = some (.int .i64 x) := by simpa using h.2.1 0
  have h1 : wr.cell? ⟨b, 1, none⟩ = some (.int .i64 y) := by simpa using h.2.1 1
  refine ⟨by simp [go_sem]; exact h.1, fun o => ?_, fun o => by simp [go_sem]; exact h.2.2 o⟩
  match o with
  | 0 => simp [go_sem, h0]
  | 1 => simp [go_sem, h1]
  | o + 2 => have := h.2.1 (o + 2); simp [go_sem, this]
def WBox (w wr : World) (x y : Int) : Prop := Below w.heap.size w wr ∧ Box w.heap.size wr x y
set_option maxRecDepth 100000 in
set_option maxHeartbeats 1200000 in
theorem itvWidensLaw_c (t : Int) (A : Option Addr) (n cap : Nat) (zs : List Int) (w : World) (ht : 0 ≤ t ∧ t ≤ 255) (hz : IntRow w .i16 A n zs) :
    Calls Try.prog 4 #[.int .u8 t, .slice A n cap] w fun e w' => e = .returned (.bool true) ∧ Below w.heap.size w w' := by
  have hmax : n ≤ 9223372036854775807 := by have := hz.2.1; unfold maxLen at this; exact this
  have HZ := Lib.hid hz
  clear hz
  by_cases h40 : 40 < n
  · have g : decide (40 < (n : Int)) = true := decide_eq_true (by omega)
    obtain ⟨ht1, ht2⟩ := ht
    go_enter Try.func4, Try.ntmps4
    go_wp2_with ((go_at_call 23; refine (awake14_c _).mono ?_; rintro e w' ⟨rfl, hb⟩; have hbz := hb.size; (try simp at hbz)))
    go_ret
    exact ⟨rfl, (by repeat' (first | exact Below.refl _ _ | (refine Below.alloc ?_ ?_ _) | (refine Below.setCell ?_ ?_ _) | (refine Below.drew ?_) | (refine below_next ?_ ?_ (by assumption)) | omega | (simp; done) | (simp; omega)))⟩
  have g : decide (40 < (n : Int)) = false := decide_eq_false (by omega)
  have hk := mod6 t ht
  obtain ⟨k, hkk⟩ : ∃ k, 1 + t % 6 = k := ⟨_, rfl⟩
  rw [hkk] at hk
  obtain ⟨ht1, ht2⟩ := ht
  have HK : Hid (1 ≤ k ∧ k ≤ 6) := Lib.hid hk
  clear hk
  go_enter Try.func4, Try.ntmps4
  go_upto_region 5 with fail
  clear hkk
  refine at_world (fun W => Hid (WBox w W 0 0)) ?_ ?_
  · exact Lib.hid ⟨(by repeat' (first | exact Below.refl _ _ | (refine Below.alloc ?_ ?_ _) | (refine Below.setCell ?_ ?_ _) | (refine Below.drew ?_) | (refine below_next ?_ ?_ (by assumption)) | omega | (simp; done) | (simp; omega))), Box.new _ _ _ _⟩
  intro W0 HW0
  go_wp2_with fail
  go_loopw [7, 8] (fun s i wr => ∃ (q : Nat) (x y st : Int), q ≤ n ∧ i = .int .i64 q ∧ s = .int .i64 st ∧ WInv k x y st ∧ WBox w wr x y) (fun _ i _ => n - (intOf i).toNat)
  case atStart => exact ⟨0, 0, 0, 0, by omega, rfl, rfl, ⟨.inl rfl, .inl rfl, rfl⟩, HW0.out⟩
  case round =>
    obtain ⟨q, x, y, st, hq, rfl, rfl, hinv, hbox⟩ := hrel
    have hst := winv_le hinv
    obtain ⟨hst1, hst2⟩ := hst
    have HI := Lib.hid hinv
    clear hinv
    by_cases hlt : q < n
    · obtain ⟨ad, rfl, hal, hac⟩ := HZ.out.2.2.2 (by omega)
      have hc := (hbox.1.cell (p := ad.add q) (by rw [add_block]; exact hal)).trans (hac q hlt)
      have hwf : -32768 ≤ zs.getD q 0 ∧ zs.getD q 0 ≤ 32767 := wf16 (HZ.out.wf hlt)
      obtain ⟨z, hzz⟩ : ∃ z, zs.getD q 0 = z := ⟨_, rfl⟩
      rw [hzz] at hc hwf
      have hv := wrapT_in k HK.out z
      have hbd := wrapT_bd k z
      obtain ⟨v, hvv⟩ : ∃ v, wrapT k z = v := ⟨_, rfl⟩
      rw [hvv] at hv hbd
      have RW : ∀ W : World, Calls Try.prog 24 #[.int .i64 k, .int .i64 z] W fun e w' => e = .returned (.int .i64 v) ∧ W = w' := by rw [← hvv]; exact r_wrap_c k z
      obtain ⟨j1, j2, m1, m2, o1, o2, ej, ew, eo, l1, l2, l3, hnext⟩ := winv_step HK.out HI.out hv
      have RJ : ∀ W : World, Calls Try.prog 25 #[.agg #[.int .i64 x, .int .i64 y], .agg #[.int .i64 v, .int .i64 v]] W fun e w' => e = .returned (.agg #[.int .i64 j1, .int .i64 j2]) ∧ Below W.heap.size W w' := by have := itvJoin_c x y v v; rw [ej] at this; exact this
      have RWi : ∀ W : World, Calls Try.prog 26 #[.agg #[.int .i64 x, .int .i64 y], .agg #[.int .i64 j1, .int .i64 j2], .int .i64 k] W fun e w' => e = .returned (.agg #[.int .i64 m1, .int .i64 m2]) ∧ Below W.heap.size W w' := by have := itvWiden_c x y j1 j2 k; rw [ew] at this; exact this
      have RO : ∀ W : World, Calls Try.prog 28 #[.int .i64 k] W fun e w' => e = .returned (.agg #[.int .i64 o1, .int .i64 o2]) ∧ Below W.heap.size W w' := by have := itvOf_c k; rw [eo] at this; exact this
      have L1 : ∀ W : World, Calls Try.prog 27 #[.agg #[.int .i64 x, .int .i64 y], .agg #[.int .i64 m1, .int .i64 m2]] W fun e w' => e = .returned (.bool true) ∧ Below W.heap.size W w' := by have := itvLe_c x y m1 m2; rw [l1] at this; exact this
      have L2 : ∀ W : World, Calls Try.prog 27 #[.agg #[.int .i64 j1, .int .i64 j2], .agg #[.int .i64 m1, .int .i64 m2]] W fun e w' => e = .returned (.bool true) ∧ Below W.heap.size W w' := by have := itvLe_c j1 j2 m1 m2; rw [l2] at this; exact this
      have L3 : ∀ W : World, Calls Try.prog 27 #[.agg #[.int .i64 m1, .int .i64 m2], .agg #[.int .i64 o1, .int .i64 o2]] W fun e w' => e = .returned (.bool true) ∧ Below W.heap.size W w' := by have := itvLe_c m1 m2 o1 o2; rw [l3] at this; exact this
      have HN := Lib.hid hnext
      clear ej ew eo l1 l2 l3 hnext hzz hvv hv hac hal
      obtain ⟨hb0, hbx⟩ := hbox
      have HB := Lib.hid hb0
      have HX := Lib.hid hbx
      obtain ⟨hs0, k0, f0⟩ := hbx
      clear hb0 f0
      obtain ⟨hw1, hw2⟩ := hwf
      obtain ⟨wo, rfl⟩ : ∃ wo : World, wo = wr := ⟨_, rfl⟩
      have hq0 : (0 : Int) ≤ (q : Int) := by omega
      have hq1 : (q : Int) < (n : Int) := by omega
      go_upto_region 11 with (first | (go_at_call 24; refine (RW _).mono ?_; rintro e w' ⟨rfl, rfl⟩) | (go_at_call 25; refine (RJ _).mono ?_; rintro e w1 ⟨rfl, hb1⟩))
      refine at_world (fun W => Hid (Below wo.heap.size wo W ∧ Box w1.heap.size W j1 j2)) (Lib.hid ⟨hb1.alloc hb1.size _, Box.new _ _ _ _⟩) ?_
      intro W2 HW2
      have hsz1 := hb1.size
      obtain ⟨b1, hb1e⟩ : ∃ b, w1.heap.size = b := ⟨_, rfl⟩
      rw [hb1e] at HW2 hsz1
      have k0b := (HX.out.below HW2.out.1).2.1
      have s0b := (HX.out.below HW2.out.1).1
      have k1b := HW2.out.2.2.1
      have s1b := HW2.out.2.1
      simp only [hb1e]
      clear hb1 hb1e k0 hs0 hc RJ RW w1
      go_upto_region 12 with (first | (go_at_call 26; refine (RWi _).mono ?_; rintro e w3 ⟨rfl, hb3⟩))
      refine at_world (fun W => Hid (Below W2.heap.size W2 W ∧ Box w3.heap.size W m1 m2)) (Lib.hid ⟨hb3.alloc hb3.size _, Box.new _ _ _ _⟩) ?_
      intro W4 HW4
      have hsz3 := hb3.size
      obtain ⟨b3, hb3e⟩ : ∃ b, w3.heap.size = b := ⟨_, rfl⟩
      rw [hb3e] at HW4 hsz3
      have HX4 : Hid (Box w.heap.size W4 x y) := Lib.hid ((HX.out.below HW2.out.1).below HW4.out.1)
      have HJ4 : Hid (Box b1 W4 j1 j2) := Lib.hid (HW2.out.2.below HW4.out.1)
      have HM4 : Hid (Box b3 W4 m1 m2) := Lib.hid HW4.out.2
      have HB4 : Hid (Below w.heap.size w W4) := Lib.hid (below_next (below_next HB.out HB.out.size HW2.out.1) (by have := HB.out.size; have := HW2.out.1.size; omega) HW4.out.1)
      simp only [hb3e]
      clear hb3 hb3e k0b k1b RWi w3
      have q0 := fun (x' : WIn (Below W4.heap.size W4)) => (HX4.out.below x'.h).2.1
      have q1 := fun (x' : WIn (Below W4.heap.size W4)) => (HJ4.out.below x'.h).2.1
      have q3 := fun (x' : WIn (Below W4.heap.size W4)) => (HM4.out.below x'.h).2.1
      refine region_in (Below W4.heap.size W4) (by kernel_rfl) (by kernel_rfl) (Below.refl _ _).drew (fun inst => ?_)
      iterate 17 (go_big_quiet_step (first | (go_at_call 28; exact call_grow (Nat.le_refl _) (RO _)) | (go_at_call 27; (first | (with_reducible exact call_grow (Nat.le_refl _) (L1 _)) | (with_reducible exact call_grow (Nat.le_refl _) (L2 _)) | (with_reducible exact call_grow (Nat.le_refl _) (L3 _))))))
      refine wpQuiet_nil ?_
      intro wd hbd
      have kx := (HX4.out.below hbd).2.1
      have fx := (HX4.out.below hbd).2.2
      have kj := (HJ4.out.below hbd).2.1
      have km := (HM4.out.below hbd).2.1
      have HBd : Hid (Below w.heap.size w wd) := Lib.hid (below_next HB4.out HB4.out.size hbd)
      have HXd : Hid (Box w.heap.size wd x y) := Lib.hid (HX4.out.below hbd)
      clear q0 q1 q3 RO L1 L2 L3 hbd
      rcases HN.out with ⟨rfl, rfl⟩ | ⟨hne, hI2, hs3, hs4⟩
      · go_wp2_with fail
        all_goals exact ⟨⟨q + 1, _, _, _, by omega, by go_num, rfl, HI.out, ⟨(HBd.out.setCell (Nat.le_refl _) _).setCell (Nat.le_refl _) _, HXd.out.put _ _⟩⟩, by simp [intOf]; omega⟩
      · go_wp2_with fail
        all_goals try subst_vars
        all_goals exact ⟨⟨q + 1, _, _, _, by omega, by go_num, rfl, hI2, ⟨(HBd.out.setCell (Nat.le_refl _) _).setCell (Nat.le_refl _) _, HXd.out.put _ _⟩⟩, by simp [intOf]; omega⟩
    · have HB := Lib.hid hbox.1
      clear hbox
      go_wp2_with (go_at_call 23; refine (awake14_c _).mono ?_; rintro e w' ⟨rfl, hb⟩)
      go_ret
      exact ⟨rfl, below_next HB.out HB.out.size hb⟩
end Go.Proofs.Ytjimfbkmfajkcab.C
