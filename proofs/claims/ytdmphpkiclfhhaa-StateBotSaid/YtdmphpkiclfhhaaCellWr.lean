/- cells.Write, r14.Write: walks. -/
import Derived.Test.YtdmphpkiclfhhaaCellOwn
namespace Go.Proofs.Ytdmphpkiclfhhaa.C
open Go.RowKit
set_option linter.unusedSimpArgs false
set_option linter.unusedVariables false
attribute [local go_sem] fieldItv0 fieldItv1
/-- Writing goes on: two boxes, the new row. -/
def WrIn (w : World) (A : Option Addr) (n c : Nat) (a b x y : Int) (r : Nat → Int × Int) (wr : World) : Prop := Below w.heap.size w wr ∧ OI wr (w.heap.size + 1 + 1) A n c r ∧ Bx w.heap.size wr a b ∧ Bx (w.heap.size + 1) wr x y
theorem WrIn.below {w wr w' : World} {A : Option Addr} {n c : Nat} {a b x y : Int} {r : Nat → Int × Int} (h : WrIn w A n c a b x y r wr) (hb : Below wr.heap.size wr w') : WrIn w A n c a b x y r w' :=
  ⟨below_next h.1 h.1.size hb, h.2.1.below hb, h.2.2.1.below hb, h.2.2.2.below hb⟩
theorem Bx.apart {b g i j : Nat} {wr : World} {x y : Int} (h : Bx b wr x y) (hne : b ≠ g) (u v : Value) : Bx b ((wr.setCell ⟨g, i, none⟩ u).setCell ⟨g, j, none⟩ v) x y := by
  have hne' : g ≠ b := fun e => hne e.symm
  refine ⟨by simp [go_sem]; exact h.1, fun o => ?_, fun o => ?_⟩
  · have := h.2.1 o; simp [go_sem, hne, hne', this]
  · have := h.2.2 o; simp [go_sem, hne, hne', this]
theorem WrIn.put {w wr : World} {g n c k : Nat} {a b x y : Int} {r : Nat → Int × Int} (h : WrIn w (some ⟨g, 0, none⟩) n c a b x y r wr) (hk : k < n) (p : Int × Int) :
    WrIn w (some ⟨g, 0, none⟩) n c a b x y (updI r k p) ((wr.setCell ⟨g, k * 2, none⟩ (.int .i64 p.1)).setCell ⟨g, k * 2 + 1, none⟩ (.int .i64 p.2)) := by
  have := h.2.1.ge
  exact ⟨(h.1.setCell (by show w.heap.size ≤ g; omega) _).setCell (by show w.heap.size ≤ g; omega) _, h.2.1.put hk p, h.2.2.1.apart (by omega) _ _, h.2.2.2.apart (by omega) _ _⟩
theorem WrIn.congr {w wr : World} {A : Option Addr} {n c : Nat} {a b x y : Int} {r s : Nat → Int × Int} (h : WrIn w A n c a b x y r wr) (e : ∀ i, i < n → r i = s i) : WrIn w A n c a b x y s wr := ⟨h.1, h.2.1.congr e, h.2.2⟩
/-- A row of which k places are done. -/
def midI (f r : Nat → Int × Int) (k : Nat) : Nat → Int × Int := fun i => if i < k then f i else r i
theorem midI_step {f r : Nat → Int × Int} {k : Nat} {p : Int × Int} (h : f k = p) : ∀ i, updI (midI f r k) k p i = midI f r (k + 1) i := fun i => by
  unfold updI midI
  by_cases e : i = k
  · subst e; rw [if_pos rfl, if_pos (by omega), h]
  · rw [if_neg e]
    by_cases e2 : i < k
    · rw [if_pos e2, if_pos (by omega)]
    · rw [if_neg e2, if_neg (by omega)]
theorem midI_keep {f r : Nat → Int × Int} {k : Nat} (h : f k = r k) : ∀ i, midI f r k i = midI f r (k + 1) i := fun i => by
  unfold midI
  by_cases e : i = k
  · subst e; rw [if_neg (by omega), if_pos (by omega), h]
  · by_cases e2 : i < k
    · rw [if_pos e2, if_pos (by omega)]
    · rw [if_neg e2, if_neg (by omega)]
theorem midI_at (f r : Nat → Int × Int) (k : Nat) : midI f r k k = r k := by unfold midI; rw [if_neg (by omega)]
set_option maxRecDepth 100000 in
set_option maxHeartbeats 6400000 in
theorem write_c (A : Option Addr) (n cap : Nat) (r : Nat → Int × Int) (a b x y : Int) (w : World) (hn2 : n ≤ 1000) (hr : CR w A n r) :
    Calls Try.prog 65 #[.slice A n cap, .agg #[.int .i64 a, .int .i64 b], .agg #[.int .i64 x, .int .i64 y]] w (NewI n (writeC r a b x y) w) := by
  have HR := Lib.hid hr
  clear hr
  go_enter Try.func65, Try.ntmps65
  go_upto_region 1 with fail
  refine at_world (fun W => Hid (Below w.heap.size w W ∧ W.heap.size = w.heap.size + 1 + 1 ∧ Bx w.heap.size W a b ∧ Bx (w.heap.size + 1) W x y)) ?_ ?_
  · have h2 := Bx.new (w.alloc (.cells #[.int .i64 a, .int .i64 b] 39)) 39 x y
    have e2 : (w.alloc (.cells #[.int .i64 a, .int .i64 b] 39)).heap.size = w.heap.size + 1 := by simp
    rw [e2] at h2
    exact Lib.hid ⟨(by repeat' (first | exact Below.refl _ _ | (refine Below.alloc ?_ ?_ _) | (refine Below.setCell ?_ ?_ _) | (refine Below.drew ?_) | (refine below_next ?_ ?_ (by assumption)) | omega | (simp; done) | (simp; omega))), by simp, (Bx.new w _ a b).below ((Below.refl _ _).alloc (Nat.le_refl _) _), h2⟩
  intro W0 H0
  go_upto_region 2 with (go_at_call 109; refine (cloneI_c A n cap r _ hn2 (HR.out.below H0.out.1)).mono ?_; rintro e w1 ⟨A', c, rfl, ho, hb⟩)
  refine at_world (fun W => Hid (WrIn w A' n c a b x y r W)) (Lib.hid ⟨below_next H0.out.1 H0.out.1.size hb, by have := H0.out.2.1; rw [this] at ho; exact ho, H0.out.2.2.1.below hb, H0.out.2.2.2.below hb⟩) ?_
  clear ho hb H0 HR w1 W0
  intro W1 H1
  have hmax := H1.out.2.1.max
  go_wp2_with fail
  go_loopw [13] (fun v wr => ∃ k : Nat, k ≤ n ∧ v = .int .i64 k ∧ WrIn w A' n c a b x y (midI (writeC r a b x y) r k) wr) (fun v _ => n - (intOf v).toNat)
  case atStart => exact ⟨0, by omega, rfl, H1.out.congr (fun i _ => by unfold midI; rw [if_neg (by omega)])⟩
  case round =>
    obtain ⟨k, hk, rfl, hi⟩ := hrel
    have HI := Lib.hid hi
    clear hi H1
    obtain ⟨wo, rfl⟩ : ∃ wo : World, wo = wr := ⟨_, rfl⟩
    by_cases hlt : k < n
    · have hk0 : (0 : Int) ≤ (k : Int) := by omega
      have hk1 : (k : Int) < (n : Int) := by omega
      have k3 := HI.out.2.2.1.2.1
      by_cases hin : a ≤ (k : Int) ∧ (k : Int) ≤ b
      · have LH := fun W => itvHas_c a b k W
        rw [decide_eq_true hin] at LH
        by_cases hab : a = b
        · have HN : Hid (writeC r a b x y k = toldI x y) := Lib.hid (by unfold writeC; rw [if_pos hin, if_pos hab])
          obtain ⟨z, hz⟩ : ∃ z, toldI x y = z := ⟨_, rfl⟩
          have LJ := fun W => itvJoin_c x y x y W
          simp only [join_self, hz] at LJ
          rw [hz] at HN
          clear hin hz
          subst hab
          go_upto_region 7 with (go_at_call 110; refine (LH _).mono ?_; rintro e w3 ⟨rfl, hb3⟩)
          refine at_world (fun W => Hid (WrIn w A' n c a a x y (midI (writeC r a a x y) r k) W)) (Lib.hid (HI.out.below hb3)) ?_
          clear k3 HI hb3 w3
          intro W3 H3
          have k3 := H3.out.2.2.1.2.1
          have k4 := H3.out.2.2.2.2.1
          obtain ⟨g, rfl, _⟩ := H3.out.2.1.at hlt
          go_upto_region 8 with fail
          clear k3
          go_wp2_with (go_at_call 111; refine (LJ _).mono ?_; rintro e w4 ⟨rfl, hb4⟩; have H4 := Lib.hid (H3.out.below hb4); obtain ⟨g', e', _, _, c0, c1, f0, f1⟩ := H4.out.2.1.at hlt; injection e' with e'; injection e' with e'; subst e')
          all_goals exact ⟨⟨k + 1, by omega, by go_num, (H4.out.put hlt z).congr (fun i _ => midI_step HN.out i)⟩, by simp [intOf]; omega⟩
        · obtain ⟨p, hp⟩ : ∃ p, r k = p := ⟨_, rfl⟩
          have HN : Hid (writeC r a b x y k = joinI p.1 p.2 x y) := Lib.hid (by unfold writeC; rw [if_pos hin, if_neg hab, hp])
          obtain ⟨z, hz⟩ : ∃ z, joinI p.1 p.2 x y = z := ⟨_, rfl⟩
          have LJ := fun W => itvJoin_c p.1 p.2 x y W
          simp only [hz] at LJ
          rw [hz] at HN
          clear hin hz
          go_upto_region 7 with (go_at_call 110; refine (LH _).mono ?_; rintro e w3 ⟨rfl, hb3⟩)
          refine at_world (fun W => Hid (WrIn w A' n c a b x y (midI (writeC r a b x y) r k) W)) (Lib.hid (HI.out.below hb3)) ?_
          clear k3 HI hb3 w3
          intro W3 H3
          have k3 := H3.out.2.2.1.2.1
          have k4 := H3.out.2.2.2.2.1
          obtain ⟨g, rfl, _, _, c0, c1, _, _⟩ := H3.out.2.1.at hlt
          rw [midI_at, hp] at c0 c1
          go_upto_region 5 with fail
          have d0 := fun (x' : WIn (Below W3.heap.size W3)) => cell_later x'.h c0
          have d1 := fun (x' : WIn (Below W3.heap.size W3)) => cell_later x'.h c1
          have d4 := fun (x' : WIn (Below W3.heap.size W3)) => (H3.out.2.2.2.below x'.h).2.1
          clear k3 k4 c0 c1
          refine region_tail 8 (Below W3.heap.size W3) (by kernel_rfl) (by kernel_rfl) (Below.refl _ _).drew (fun inst => ?_)
          simp only [List.take_succ_cons, List.take_zero, List.drop_succ_cons, List.drop_zero]
          iterate 8 (go_big_quiet_step ((go_at_call 111; exact call_grow (Nat.le_refl _) (LJ _))))
          refine wpQuiet_nil ?_
          intro wd hbd
          have H4 := Lib.hid (H3.out.below hbd)
          obtain ⟨g', e', _, _, c0, c1, f0, f1⟩ := H4.out.2.1.at hlt
          injection e' with e'
          injection e' with e'
          subst e'
          clear d0 d1 d4
          go_wp2_with fail
          all_goals exact ⟨⟨k + 1, by omega, by go_num, (H4.out.put hlt z).congr (fun i _ => midI_step HN.out i)⟩, by simp [intOf]; omega⟩
      · have LH := fun W => itvHas_c a b k W
        rw [decide_eq_false hin] at LH
        have HN : Hid (writeC r a b x y k = r k) := Lib.hid (by unfold writeC; rw [if_neg hin])
        clear hin
        go_wp2_with (go_at_call 110; refine (LH _).mono ?_; rintro e w3 ⟨rfl, hb3⟩)
        all_goals exact ⟨⟨k + 1, by omega, by go_num, (HI.out.below hb3).congr (fun i _ => midI_keep HN.out i)⟩, by simp [intOf]; omega⟩
    · obtain rfl : k = n := by omega
      clear hk hlt
      go_wp2_with fail
      go_ret
      exact ⟨A', c, rfl, (HI.out.2.1.mono (by omega)).congr (fun i hi => by unfold midI; rw [if_pos hi]), HI.out.1⟩
end Go.Proofs.Ytdmphpkiclfhhaa.C
