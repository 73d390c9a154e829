/- l8.Names, l8.Both: walks. -/
import Derived.Test.YtkgdogdallojlaaWatch4
import Derived.Test.YtkgdogdallojlaaLaw7e
import Derived.OwnWalk
namespace Go.Proofs.Ytkgdogdallojlaa.C
open Go.RowKit
set_option linter.unusedSimpArgs false
set_option linter.unusedVariables false
def nT (i : Nat) : Int := if i = 0 then 5 else if i = 1 then 2 else if i = 2 then 6 else 3
def nS (i : Nat) : Int := if i = 3 then 4 else 0
/-- The names' types and sizes lie there. -/
def NmAt (w : World) (g : Nat) : Prop := g < w.heap.size ∧ ∀ i, i < 4 → w.cell? ⟨g, i * 4 + 1, none⟩ = some (.int .i64 (nT i)) ∧ w.cell? ⟨g, i * 4 + 2, none⟩ = some (.int .i64 (nS i))
theorem NmAt.kept {w w' : World} {g : Nat} (h : NmAt w g) (hs : w.heap.size ≤ w'.heap.size) (hk : w'.heap[g]? = w.heap[g]?) : NmAt w' g :=
  ⟨Nat.lt_of_lt_of_le h.1 hs, fun i hi => ⟨(m_kept (p := ⟨g, i * 4 + 1, none⟩) hk).trans (h.2 i hi).1, (m_kept (p := ⟨g, i * 4 + 2, none⟩) hk).trans (h.2 i hi).2⟩⟩
theorem NmAt.below {w w' : World} {g : Nat} (h : NmAt w g) (hb : Below w.heap.size w w') : NmAt w' g := h.kept hb.size (hb.block g h.1)
theorem names_c (w : World) : Calls Try.prog 16 #[] w fun e w' => e = .returned (.slice (some ⟨w.heap.size, 0, none⟩) 4 4) ∧ NmAt w' w.heap.size ∧ Below w.heap.size w w' := by
  go_enter Try.func16, Try.ntmps16
  go_wp2
  go_ret
  refine ⟨rfl, ⟨by simp, fun i hi => ?_⟩, (by repeat' (first | exact Below.refl _ _ | (refine Below.alloc ?_ ?_ _) | (refine Below.setCell ?_ ?_ _) | (refine Below.drew ?_) | (refine below_next ?_ ?_ (by assumption)) | omega | (simp; done) | (simp; omega)))⟩
  match i, hi with
  | 0, _ => simp [go_sem, nT, nS]
  | 1, _ => simp [go_sem, nT, nS]
  | 2, _ => simp [go_sem, nT, nS]
  | 3, _ => simp [go_sem, nT, nS]
def BothPost (w : World) (e : Ending) (w' : World) : Prop := ∃ p1 p2, e = .returned (.tuple #[.pointer (some ⟨p1, 0, none⟩), .pointer (some ⟨p2, 0, none⟩), .bool true]) ∧ Below w.heap.size w w' ∧ TwP w' w.heap.size p1 p2 4
/-- Two memories alike, and the names. -/
def BoS (w wr : World) (p1 p2 i g : Nat) : Prop := Below w.heap.size w wr ∧ NmAt wr g ∧ ∃ ts ln f, Tw wr w.heap.size p1 p2 i i ts ts ln ln f f g
theorem BoS.below {w wr w' : World} {p1 p2 i g : Nat} (h : BoS w wr p1 p2 i g) (hb : Below wr.heap.size wr w') : BoS w w' p1 p2 i g := by
  obtain ⟨h1, h2, ts, ln, f, h3⟩ := h
  exact ⟨below_next h1 h1.size hb, h2.below hb, ts, ln, f, h3.below hb⟩
set_option maxRecDepth 100000 in
set_option maxHeartbeats 12800000 in
theorem both_c (A : Option Addr) (n cap : Nat) (vs : Nat → Int) (w : World) (hA : RowC w A n vs) :
    Calls Try.prog 6 #[.slice A n cap] w (BothPost w) := by
  have hmax := hA.1
  have HA := Lib.hid hA
  clear hA
  go_enter Try.func6, Try.ntmps6
  go_upto_region 2 with (go_at_call 11; refine (new_c _).mono ?_; rintro e w1 ⟨rfl, hb1, hm1⟩)
  have hs1 := hb1.size
  have HP : Below w.heap.size w (w1.alloc (.cells #[.slice none 0 0] 45)) ∧ TwP (w1.alloc (.cells #[.slice none 0 0] 45)) w.heap.size w.heap.size w1.heap.size 0 := by
    have hba := (Below.refl w1.heap.size w1).alloc (Nat.le_refl _) (.cells #[.slice none 0 0] 45)
    have hlt := hm1.hp.2
    refine ⟨hb1.alloc hs1 _, by simp; omega, fun _ => 0, fun _ => 0, fun _ _ => 0, .slice none 0 0, .slice none 0 0, fun _ => 0, fun _ => 0, fun _ => 0, fun _ => 0, hm1.ms.below hba, ⟨⟨hs1, by simp⟩, by simp [go_sem], by simp [go_sem], .inl ⟨rfl, .inl ⟨rfl, rfl⟩⟩, by simp [Value.ownBlock], by intros; omega, by intros; omega, by intros; omega, by intros; omega⟩, fun x h1 h2 => ?_⟩
    rcases h1 with h1 | h1 | ⟨i, hi, _⟩
    · rcases h2 with h2 | h2 | ⟨i, hi, _⟩
      · omega
      · simp [Value.ownBlock] at h2
      · omega
    · simp [Value.ownBlock] at h1
    · omega
  refine at_world (fun W => Hid (Below w.heap.size w W ∧ TwP W w.heap.size w.heap.size w1.heap.size 0)) (Lib.hid HP) ?_
  obtain ⟨p2, hp2⟩ : ∃ b, w1.heap.size = b := ⟨_, rfl⟩
  simp only [hp2]
  clear hm1 hb1 HP hs1 hp2 w1
  intro W0 H0
  go_upto_region 5 with (go_at_call 16; refine (names_c _).mono ?_; rintro e w2 ⟨rfl, hn, hb2⟩)
  have HT := H0.out.2.fresh hb2 hn.1
  refine at_world (fun W => Hid (BoS w W w.heap.size p2 0 W0.heap.size)) (Lib.hid ⟨below_next H0.out.1 H0.out.1.size hb2, hn, HT⟩) ?_
  obtain ⟨g, hg⟩ : ∃ b, W0.heap.size = b := ⟨_, rfl⟩
  simp only [hg]
  clear HT hb2 hn hg H0 w2 W0
  intro W1 H1
  go_wp2_with fail
  go_loopw [8, 9] (fun kk v wr => ∃ (i k : Nat), i ≤ 4 ∧ k ≤ n ∧ v = .int .i64 i ∧ kk = .int .i64 k ∧ Hid (BoS w wr w.heap.size p2 i g)) (fun _ v _ => 4 - (intOf v).toNat)
  case atStart => exact ⟨0, 0, by omega, by omega, rfl, rfl, H1⟩
  case round =>
    clear H1
    obtain ⟨i, k, hi, hk, rfl, rfl, HI⟩ := hrel
    obtain ⟨wo, rfl⟩ : ∃ wo : World, wo = wr := ⟨_, rfl⟩
    by_cases hlt : i < 4
    · have hi0 : (0 : Int) ≤ (i : Int) := by omega
      have hi1 : (i : Int) < 4 := by omega
      obtain ⟨q1, q2⟩ := HI.out.2.1.2 i hlt
      have hnS : 0 ≤ nS i ∧ nS i ≤ 4 := by unfold nS; split <;> omega
      obtain ⟨t, ht⟩ : ∃ x, nT i = x := ⟨_, rfl⟩
      obtain ⟨s, hs⟩ : ∃ x, nS i = x := ⟨_, rfl⟩
      rw [ht] at q1
      rw [hs] at q2 hnS
      obtain ⟨m, hm⟩ : ∃ m : Nat, (if 1 < s then s else 1) = (m : Int) := ⟨(max 1 s).toNat, by split <;> omega⟩
      have HQ : Hid (∀ W, NmAt W g → W.cell? ⟨g, i * 4 + 1, none⟩ = some (.int .i64 t) ∧ W.cell? ⟨g, i * 4 + 2, none⟩ = some (.int .i64 s)) := Lib.hid (fun W h => by have := h.2 i hlt; rwa [ht, hs] at this)
      clear ht hs
      obtain ⟨ts, ln, f, htw⟩ := HI.out.2.2
      have HT := Lib.hid htw
      clear htw
      have d1 := fun (x' : WIn (Below wo.heap.size wo)) => cell_later x'.h q1
      have d2 := fun (x' : WIn (Below wo.heap.size wo)) => cell_later x'.h q2
      clear q1 q2
      go_upto_region 9 with fail
      refine region_tail 12 (Below wo.heap.size wo) (by kernel_rfl) (by kernel_rfl) (Below.refl _ _).drew (fun inst => ?_)
      simp only [List.take_succ_cons, List.take_zero, List.drop_succ_cons, List.drop_zero]
      iterate 12 (go_big_quiet_step (fail))
      refine wpQuiet_nil ?_
      intro wd hbd
      have HT1 := Lib.hid (HT.out.below hbd)
      have HN1 := Lib.hid (And.intro (below_next HI.out.1 HI.out.1.size hbd) (HI.out.2.1.below hbd))
      clear HI HT d1 d2
      go_upto_region 10 with (go_at_call 12; refine (add1_t HT1.out (by omega) t (m : Int)).mono ?_; rintro e w3 ⟨rfl, hb3, hx3, htw3⟩)
      refine at_world (fun W => Hid (Below w.heap.size w W ∧ NmAt W g ∧ Tw W w.heap.size w.heap.size p2 (i + 1) i (addT i ts t) ts (addN i ln (sizeM (m : Int))) ln (addF i f fun _ => 0) f g)) (Lib.hid ⟨HN1.out.1.trans hb3, HN1.out.2.kept hb3.size hx3, htw3⟩) ?_
      clear hb3 hx3 htw3 HT1 HN1 w3 hbd wd
      intro W2 H2
      obtain ⟨q1, q2⟩ := HQ.out W2 H2.out.2.1
      have d1 := fun (x' : WIn (Below W2.heap.size W2)) => cell_later x'.h q1
      have d2 := fun (x' : WIn (Below W2.heap.size W2)) => cell_later x'.h q2
      clear q1 q2
      refine region_tail 12 (Below W2.heap.size W2) (by kernel_rfl) (by kernel_rfl) (Below.refl _ _).drew (fun inst => ?_)
      simp only [List.take_succ_cons, List.take_zero, List.drop_succ_cons, List.drop_zero]
      iterate 12 (go_big_quiet_step (fail))
      refine wpQuiet_nil ?_
      intro wd hbd
      have HT1 := Lib.hid (H2.out.2.2.below hbd)
      have HN1 := Lib.hid (And.intro (below_next H2.out.1 H2.out.1.size hbd) (H2.out.2.1.below hbd))
      clear H2 d1 d2
      go_upto_region 11 with (go_at_call 17; refine (add2_t HT1.out (by omega) t (m : Int)).mono ?_; rintro e w3 ⟨rfl, hb3, hx3, htw3⟩)
      refine at_world (fun W => Hid (BoS w W w.heap.size p2 (i + 1) g)) (Lib.hid ⟨HN1.out.1.trans hb3, HN1.out.2.kept hb3.size hx3, _, _, _, htw3⟩) ?_
      clear hb3 hx3 htw3 HT1 HN1 w3 hbd wd
      intro W3 H3
      go_wp2_with fail
      go_loopw [8, 10] (fun kk v wr => ∃ (j k : Nat), j ≤ m ∧ k ≤ n ∧ v = .int .i64 j ∧ kk = .int .i64 k ∧ Hid (BoS w wr w.heap.size p2 (i + 1) g)) (fun _ v _ => m - (intOf v).toNat)
      case atStart => exact ⟨0, k, by omega, hk, rfl, rfl, H3⟩
      case round =>
        clear H3 hk
        obtain ⟨j, k, hj, hk, rfl, rfl, HJ⟩ := hrel
        obtain ⟨wi, rfl⟩ : ∃ wi : World, wi = wr := ⟨_, rfl⟩
        obtain ⟨q1, q2⟩ := HQ.out wi HJ.out.2.1
        by_cases hjm : j < m
        · have hj0 : (0 : Int) ≤ (j : Int) := by omega
          have hj1 : (j : Int) < (m : Int) := by omega
          have gj : decide ((j : Int) < (m : Int)) = true := decide_eq_true hj1
          by_cases hkn : k < n
          · have hk0 : (0 : Int) ≤ (k : Int) := by omega
            have hk1 : (k : Int) < (n : Int) := by omega
            have gk : decide ((k : Int) < (n : Int)) = true := decide_eq_true hk1
            obtain ⟨a, rfl, ha⟩ := (HA.out.below HJ.out.1).2 (by omega)
            have c0 := ha k hkn
            clear ha
            obtain ⟨v, hv⟩ : ∃ x, vs k = x := ⟨_, rfl⟩
            rw [hv] at c0
            have HV := Lib.hid hv
            clear hv
            obtain ⟨ts', ln', f', htw⟩ := HJ.out.2.2
            have HT := Lib.hid htw
            clear htw
            go_upto_region 15 with (go_at_call 14; refine (set1_t HT.out i j v).mono ?_; rintro e w3 ⟨rfl, hb3, hx3, htw3⟩)
            refine at_world (fun W => Hid (Below w.heap.size w W ∧ NmAt W g ∧ Tw W w.heap.size w.heap.size p2 (i + 1) (i + 1) ts' ts' ln' ln' (setM (i + 1) ln' ts' f' i j v) f' g) ∧ W.cell? (a.add k) = some (.int .i64 v)) ⟨Lib.hid ⟨HJ.out.1.trans hb3, HJ.out.2.1.kept hb3.size hx3, htw3⟩, ?_⟩ ?_
            · obtain ⟨a', e', ha'⟩ := (HA.out.below (HJ.out.1.trans hb3)).2 (by omega)
              injection e' with e'
              subst e'
              have := ha' k hkn
              rwa [HV.out] at this
            clear hb3 hx3 htw3 w3 c0 q1 q2 HT
            intro W4 ⟨H4, c0⟩
            have HT := Lib.hid H4.out.2.2
            go_upto_region 16 with (go_at_call 18; refine (set2_t HT.out i j v).mono ?_; rintro e w3 ⟨rfl, hb3, hx3, htw3⟩)
            have H5 : Hid (BoS w w3 w.heap.size p2 (i + 1) g) := Lib.hid ⟨H4.out.1.trans hb3, H4.out.2.1.kept hb3.size hx3, _, _, _, htw3⟩
            clear hb3 hx3 htw3 c0 HT H4 HJ
            go_wp2_with fail
            all_goals exact ⟨⟨j + 1, k + 1, by omega, by omega, by go_num, by go_num, H5⟩, by simp [intOf]; omega⟩
          · have gk : decide ((k : Int) < (n : Int)) = false := decide_eq_false (by omega)
            have gk' : decide (k < n) = false := decide_eq_false hkn
            go_wp2_with fail
            all_goals exact ⟨⟨i + 1, k, by omega, hk, by go_num, rfl, HJ⟩, by simp [intOf]; omega⟩
        · have gj : decide ((j : Int) < (m : Int)) = false := decide_eq_false (by omega)
          have gj' : decide (j < m) = false := decide_eq_false hjm
          go_wp2_with fail
          all_goals exact ⟨⟨i + 1, k, by omega, hk, by go_num, rfl, HJ⟩, by simp [intOf]; omega⟩
    · obtain rfl : i = 4 := by omega
      clear hi hlt
      go_wp2_with fail
      go_ret3
      obtain ⟨h1, h2, ts, ln, f, h3⟩ := HI.out
      exact ⟨_, _, rfl, h1, h3.twin⟩
end Go.Proofs.Ytkgdogdallojlaa.C
