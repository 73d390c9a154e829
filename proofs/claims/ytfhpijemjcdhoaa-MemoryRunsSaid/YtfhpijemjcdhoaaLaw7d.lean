/- MemoryRuns: the law's walk. Printed by wip/gen_memruns.py. -/
import Derived.Test.YtfhpijemjcdhoaaLaw7e
import Derived.Test.YtfhpijemjcdhoaaAOpen
namespace Go.Proofs.Ytfhpijemjcdhoaa.C
open Go.RowKit
set_option linter.unusedSimpArgs false
set_option linter.unusedVariables false
set_option maxRecDepth 100000 in
set_option maxHeartbeats 12800000 in
theorem memoryRuns_c (A : Option Addr) (n cap : Nat) (z : Nat → Nat → Int) (w : World) (hz : ActRow w A n z) :
    Calls Try.prog 5 #[.slice A n cap] w fun e w' => e = .returned (.bool true) ∧ Below w.heap.size w w' := by
  have hmax := hz.1
  by_cases hn : 120 < n
  · have g1 : decide (120 < n) = true := decide_eq_true hn
    clear hz
    go_enter Try.func5, Try.ntmps5
    go_wp2_with ((go_at_call 12; refine (awake7_c _).mono ?_; rintro e w' ⟨rfl, hb⟩))
    go_ret
    exact ⟨rfl, hb⟩
  have g1 : decide (120 < n) = false := decide_eq_false hn
  have hn120 : n ≤ 120 := by omega
  have HZ := Lib.hid hz
  clear hz hn
  go_enter Try.func5, Try.ntmps5
  go_upto_region 6 with ((go_at_call 7; refine (new_c _).mono ?_; rintro e w' ⟨rfl, hb1, hm1⟩))
  have hs1 := hb1.size
  have HP : Below w.heap.size w (w'.alloc (.cells #[.slice none 0 0] 42)) ∧ TwP (w'.alloc (.cells #[.slice none 0 0] 42)) w.heap.size w.heap.size w'.heap.size 0 := by
    have hba := (Below.refl w'.heap.size w').alloc (Nat.le_refl _) (.cells #[.slice none 0 0] 42)
    have hlt := hm1.hp.2
    refine ⟨hb1.alloc hs1 _, by simp; omega, fun _ => 0, fun _ => 0, fun _ _ => 0, .slice none 0 0, .slice none 0 0, fun _ => 0, fun _ => 0, fun _ => 0, fun _ => 0, hm1.ms.below hba, ⟨⟨hs1, by simp⟩, by simp [go_sem], by simp [go_sem], .inl ⟨rfl, .inl ⟨rfl, rfl⟩⟩, by simp [Value.ownBlock], by intros; omega, by intros; omega, by intros; omega, by intros; omega⟩, fun x h1 h2 => ?_⟩
    rcases h1 with h1 | h1 | ⟨i, hi, _⟩
    · rcases h2 with h2 | h2 | ⟨i, hi, _⟩
      · omega
      · simp [Value.ownBlock] at h2
      · omega
    · simp [Value.ownBlock] at h1
    · omega
  refine at_world (fun W => Hid (Below w.heap.size w W ∧ TwP W w.heap.size w.heap.size w'.heap.size 0)) (Lib.hid HP) ?_
  obtain ⟨b2, hb2⟩ : ∃ b, w'.heap.size = b := ⟨_, rfl⟩
  simp only [hb2]
  clear hm1 hb1 HP hs1 hb2 w'
  intro W0 HI0
  go_wp2_with fail
  go_loopw [3, 5] (fun m i wr => ∃ (k q p : Nat), k ≤ n ∧ q ≤ k ∧ i = .int .i64 k ∧ m = .pointer (some ⟨p, 0, none⟩) ∧ Hid (Below w.heap.size w wr ∧ TwP wr w.heap.size p b2 q)) (fun _ i _ => n - (intOf i).toNat)
  case atStart => exact ⟨0, 0, w.heap.size, by omega, by omega, rfl, rfl, HI0⟩
  case round =>
    obtain ⟨k, q, p, hk, hq, rfl, rfl, HI⟩ := hrel
    by_cases hlt : k < n
    · obtain ⟨ad, rfl, hadb, hc⟩ := (HZ.out.below HI.out.1).2 (by omega)
      have hk0 : (0 : Int) ≤ (k : Int) := by omega
      have hk1 : (k : Int) < (n : Int) := by omega
      have c0 : wr.cell? (ad.add (k * 4)) = some (.int .i64 (z k 0)) := hc k 0 hlt (by omega)
      have c1 : wr.cell? { block := (ad.add (k * 4)).block, off := (ad.add (k * 4)).off + 1 } = some (.int .i64 (z k 1)) := by have := hc k 1 hlt (by omega); rw [← Go.Deep.add_add] at this; exact this
      have c2 : wr.cell? { block := (ad.add (k * 4)).block, off := (ad.add (k * 4)).off + 2 } = some (.int .i64 (z k 2)) := by have := hc k 2 hlt (by omega); rw [← Go.Deep.add_add] at this; exact this
      have c3 : wr.cell? { block := (ad.add (k * 4)).block, off := (ad.add (k * 4)).off + 3 } = some (.int .i64 (z k 3)) := by have := hc k 3 hlt (by omega); rw [← Go.Deep.add_add] at this; exact this
      obtain ⟨x, hx⟩ : ∃ x, z k 0 = x := ⟨_, rfl⟩
      obtain ⟨id, hid⟩ : ∃ x, z k 1 = x := ⟨_, rfl⟩
      obtain ⟨at', hat⟩ : ∃ x, z k 2 = x := ⟨_, rfl⟩
      obtain ⟨v, hv⟩ : ∃ x, z k 3 = x := ⟨_, rfl⟩
      rw [hx] at c0
      rw [hid] at c1
      rw [hat] at c2
      rw [hv] at c3
      clear hc hadb hx hid hat hv
      go_upto_region 10 with fail
      refine at_world (fun W => Hid (Below w.heap.size w W ∧ (∃ ts ln f, Tw W w.heap.size p b2 q q ts ts ln ln f f wr.heap.size)) ∧ W.cell? ⟨wr.heap.size, 0, none⟩ = some (Value.int .i64 x) ∧ W.cell? ⟨wr.heap.size, 1, none⟩ = some (Value.int .i64 id) ∧ W.cell? ⟨wr.heap.size, 2, none⟩ = some (Value.int .i64 at') ∧ W.cell? ⟨wr.heap.size, 3, none⟩ = some (Value.int .i64 v)) ⟨Lib.hid ⟨HI.out.1.alloc HI.out.1.size _, HI.out.2.fresh ((Below.refl _ _).alloc (Nat.le_refl _) _) (by simp)⟩, by simp [go_sem], by simp [go_sem], by simp [go_sem], by simp [go_sem]⟩ ?_
      obtain ⟨b6, hb6⟩ : ∃ b, wr.heap.size = b := ⟨_, rfl⟩
      simp only [hb6]
      clear HI c0 c1 c2 c3 hb6 hk0 hk1
      intro W1 ⟨HW, q0, q1, q2, q3⟩
      obtain ⟨ts, ln, f, htw⟩ := HW.out.2
      have HB := Lib.hid HW.out.1
      have HT := Lib.hid htw
      clear htw HW
      have gn : ((q : Int) != (q : Int)) = false := by simp
      rcases (by omega : x = 0 ∨ x = 1 ∨ x = 2 ∨ x = 3 ∨ x = 4 ∨ x = 5 ∨ x = 6 ∨ x = 7 ∨ (x ≠ 0 ∧ x ≠ 1 ∧ x ≠ 2 ∧ x ≠ 3 ∧ x ≠ 4 ∧ x ≠ 5 ∧ x ≠ 6 ∧ x ≠ 7)) with rfl | rfl | rfl | rfl | rfl | rfl | rfl | rfl | hx
      · go_upto_region 13 with fail
        clear q0 q3
        have HT0 := Lib.hid HT.out.drew
        replace HB := Lib.hid HB.out.drew
        have hq9 : q ≤ 100000 := by omega
        go_region_held3 (fun w' => w'.cell? ⟨b6, 1, none⟩ = some (Value.int .i64 id) ∧ w'.cell? ⟨b6, 2, none⟩ = some (Value.int .i64 at')) (exact ⟨q1, q2⟩) ((first | (go_at_call 8; refine (add1_t HT0.out hq9 id at').mono ?_; clear HT0; rintro e w1 ⟨rfl, hb, hx, htw1⟩; have HT1 := Lib.hid htw1; replace q1 := (m_kept (p := ⟨b6, 1, none⟩) hx).trans q1; replace q2 := (m_kept (p := ⟨b6, 2, none⟩) hx).trans q2; replace HB := Lib.hid (HB.out.trans hb); clear hb hx; clear htw1) | (go_at_call 15; refine (add2_t HT1.out hq9 id at').mono ?_; clear HT1; rintro e w2 ⟨rfl, hb, hx, htw2⟩; have HT2 := Lib.hid htw2; replace q1 := (m_kept (p := ⟨b6, 1, none⟩) hx).trans q1; replace q2 := (m_kept (p := ⟨b6, 2, none⟩) hx).trans q2; replace HB := Lib.hid (HB.out.trans hb); clear hb hx; clear htw2)))
        all_goals (go_upto_region 30 with fail)
        have HP := Lib.hid HT2.out.twin
        obtain ⟨Q, hQ⟩ : ∃ Q, q + 1 = Q := ⟨_, rfl⟩
        rw [hQ] at HP
        clear q1 q2 HT HT2
        obtain ⟨ao, cp, cc⟩ := HP.out.cell2
        have LN := Lib.hid ((HP.out.below (Below.refl _ _).drew).len1)
        have gq : ((Q : Int) != (Q : Int)) = false := by simp
        go_region_held3 (fun w' => w'.cell? ⟨b2, 0, none⟩ = some (Value.slice ao Q cp)) (exact cc) ((go_at_call 20; refine (LN.out).mono ?_; rintro e w' ⟨rfl, rfl⟩))
        all_goals (go_wp2_with fail)
        all_goals exact ⟨⟨k + 1, Q, p, by omega, by omega, by go_num, rfl, Lib.hid ⟨HB.out.drew, HP.out.below (Below.refl _ _).drew⟩⟩, by simp [intOf]; omega⟩
      · go_upto_region 13 with fail
        clear q0 q3
        have HT0 := Lib.hid HT.out.drew
        replace HB := Lib.hid HB.out.drew
        have hq9 : q ≤ 100000 := by omega
        go_region_held3 (fun w' => w'.cell? ⟨b6, 1, none⟩ = some (Value.int .i64 id) ∧ w'.cell? ⟨b6, 2, none⟩ = some (Value.int .i64 at')) (exact ⟨q1, q2⟩) ((first | (go_at_call 8; refine (add1_t HT0.out hq9 id at').mono ?_; clear HT0; rintro e w1 ⟨rfl, hb, hx, htw1⟩; have HT1 := Lib.hid htw1; replace q1 := (m_kept (p := ⟨b6, 1, none⟩) hx).trans q1; replace q2 := (m_kept (p := ⟨b6, 2, none⟩) hx).trans q2; replace HB := Lib.hid (HB.out.trans hb); clear hb hx; clear htw1) | (go_at_call 15; refine (add2_t HT1.out hq9 id at').mono ?_; clear HT1; rintro e w2 ⟨rfl, hb, hx, htw2⟩; have HT2 := Lib.hid htw2; replace q1 := (m_kept (p := ⟨b6, 1, none⟩) hx).trans q1; replace q2 := (m_kept (p := ⟨b6, 2, none⟩) hx).trans q2; replace HB := Lib.hid (HB.out.trans hb); clear hb hx; clear htw2)))
        all_goals (go_upto_region 30 with fail)
        have HP := Lib.hid HT2.out.twin
        obtain ⟨Q, hQ⟩ : ∃ Q, q + 1 = Q := ⟨_, rfl⟩
        rw [hQ] at HP
        clear q1 q2 HT HT2
        obtain ⟨ao, cp, cc⟩ := HP.out.cell2
        have LN := Lib.hid ((HP.out.below (Below.refl _ _).drew).len1)
        have gq : ((Q : Int) != (Q : Int)) = false := by simp
        go_region_held3 (fun w' => w'.cell? ⟨b2, 0, none⟩ = some (Value.slice ao Q cp)) (exact cc) ((go_at_call 20; refine (LN.out).mono ?_; rintro e w' ⟨rfl, rfl⟩))
        all_goals (go_wp2_with fail)
        all_goals exact ⟨⟨k + 1, Q, p, by omega, by omega, by go_num, rfl, Lib.hid ⟨HB.out.drew, HP.out.below (Below.refl _ _).drew⟩⟩, by simp [intOf]; omega⟩
      · go_upto_region 18 with fail
        clear q0
        have HT0 := Lib.hid HT.out.drew
        replace HB := Lib.hid HB.out.drew
        have gh : (hasM q ln id at' != hasM q ln id at') = false := by simp
        go_region_held3 (fun w' => w'.cell? ⟨b6, 1, none⟩ = some (Value.int .i64 id) ∧ w'.cell? ⟨b6, 2, none⟩ = some (Value.int .i64 at') ∧ w'.cell? ⟨b6, 3, none⟩ = some (Value.int .i64 v)) (exact ⟨q1, q2, q3⟩) ((first | (go_at_call 9; refine (set1_t HT0.out id at' v).mono ?_; clear HT0; rintro e w1 ⟨rfl, hb, hx, htw1⟩; have HT1 := Lib.hid htw1; replace q1 := (m_kept (p := ⟨b6, 1, none⟩) hx).trans q1; replace q2 := (m_kept (p := ⟨b6, 2, none⟩) hx).trans q2; replace q3 := (m_kept (p := ⟨b6, 3, none⟩) hx).trans q3; replace HB := Lib.hid (HB.out.trans hb); clear hb hx; clear htw1) | (go_at_call 16; refine (set2_t HT1.out id at' v).mono ?_; clear HT1; rintro e w2 ⟨rfl, hb, hx, htw2⟩; have HT2 := Lib.hid htw2; replace q1 := (m_kept (p := ⟨b6, 1, none⟩) hx).trans q1; replace q2 := (m_kept (p := ⟨b6, 2, none⟩) hx).trans q2; replace q3 := (m_kept (p := ⟨b6, 3, none⟩) hx).trans q3; replace HB := Lib.hid (HB.out.trans hb); clear hb hx; clear htw2)))
        all_goals (go_upto_region 30 with fail)
        have HP := Lib.hid HT2.out.twin
        obtain ⟨Q, hQ⟩ : ∃ Q, q = Q := ⟨_, rfl⟩
        rw [hQ] at HP
        clear q1 q2 q3 HT HT2 gh
        obtain ⟨ao, cp, cc⟩ := HP.out.cell2
        have LN := Lib.hid ((HP.out.below (Below.refl _ _).drew).len1)
        have gq : ((Q : Int) != (Q : Int)) = false := by simp
        go_region_held3 (fun w' => w'.cell? ⟨b2, 0, none⟩ = some (Value.slice ao Q cp)) (exact cc) ((go_at_call 20; refine (LN.out).mono ?_; rintro e w' ⟨rfl, rfl⟩))
        all_goals (go_wp2_with fail)
        all_goals exact ⟨⟨k + 1, Q, p, by omega, by omega, by go_num, rfl, Lib.hid ⟨HB.out.drew, HP.out.below (Below.refl _ _).drew⟩⟩, by simp [intOf]; omega⟩
      · go_upto_region 18 with fail
        clear q0
        have HT0 := Lib.hid HT.out.drew
        replace HB := Lib.hid HB.out.drew
        have gh : (hasM q ln id at' != hasM q ln id at') = false := by simp
        go_region_held3 (fun w' => w'.cell? ⟨b6, 1, none⟩ = some (Value.int .i64 id) ∧ w'.cell? ⟨b6, 2, none⟩ = some (Value.int .i64 at') ∧ w'.cell? ⟨b6, 3, none⟩ = some (Value.int .i64 v)) (exact ⟨q1, q2, q3⟩) ((first | (go_at_call 9; refine (set1_t HT0.out id at' v).mono ?_; clear HT0; rintro e w1 ⟨rfl, hb, hx, htw1⟩; have HT1 := Lib.hid htw1; replace q1 := (m_kept (p := ⟨b6, 1, none⟩) hx).trans q1; replace q2 := (m_kept (p := ⟨b6, 2, none⟩) hx).trans q2; replace q3 := (m_kept (p := ⟨b6, 3, none⟩) hx).trans q3; replace HB := Lib.hid (HB.out.trans hb); clear hb hx; clear htw1) | (go_at_call 16; refine (set2_t HT1.out id at' v).mono ?_; clear HT1; rintro e w2 ⟨rfl, hb, hx, htw2⟩; have HT2 := Lib.hid htw2; replace q1 := (m_kept (p := ⟨b6, 1, none⟩) hx).trans q1; replace q2 := (m_kept (p := ⟨b6, 2, none⟩) hx).trans q2; replace q3 := (m_kept (p := ⟨b6, 3, none⟩) hx).trans q3; replace HB := Lib.hid (HB.out.trans hb); clear hb hx; clear htw2)))
        all_goals (go_upto_region 30 with fail)
        have HP := Lib.hid HT2.out.twin
        obtain ⟨Q, hQ⟩ : ∃ Q, q = Q := ⟨_, rfl⟩
        rw [hQ] at HP
        clear q1 q2 q3 HT HT2 gh
        obtain ⟨ao, cp, cc⟩ := HP.out.cell2
        have LN := Lib.hid ((HP.out.below (Below.refl _ _).drew).len1)
        have gq : ((Q : Int) != (Q : Int)) = false := by simp
        go_region_held3 (fun w' => w'.cell? ⟨b2, 0, none⟩ = some (Value.slice ao Q cp)) (exact cc) ((go_at_call 20; refine (LN.out).mono ?_; rintro e w' ⟨rfl, rfl⟩))
        all_goals (go_wp2_with fail)
        all_goals exact ⟨⟨k + 1, Q, p, by omega, by omega, by go_num, rfl, Lib.hid ⟨HB.out.drew, HP.out.below (Below.refl _ _).drew⟩⟩, by simp [intOf]; omega⟩
      · go_upto_region 18 with fail
        clear q0
        have HT0 := Lib.hid HT.out.drew
        replace HB := Lib.hid HB.out.drew
        have gh : (hasM q ln id at' != hasM q ln id at') = false := by simp
        go_region_held3 (fun w' => w'.cell? ⟨b6, 1, none⟩ = some (Value.int .i64 id) ∧ w'.cell? ⟨b6, 2, none⟩ = some (Value.int .i64 at') ∧ w'.cell? ⟨b6, 3, none⟩ = some (Value.int .i64 v)) (exact ⟨q1, q2, q3⟩) ((first | (go_at_call 9; refine (set1_t HT0.out id at' v).mono ?_; clear HT0; rintro e w1 ⟨rfl, hb, hx, htw1⟩; have HT1 := Lib.hid htw1; replace q1 := (m_kept (p := ⟨b6, 1, none⟩) hx).trans q1; replace q2 := (m_kept (p := ⟨b6, 2, none⟩) hx).trans q2; replace q3 := (m_kept (p := ⟨b6, 3, none⟩) hx).trans q3; replace HB := Lib.hid (HB.out.trans hb); clear hb hx; clear htw1) | (go_at_call 16; refine (set2_t HT1.out id at' v).mono ?_; clear HT1; rintro e w2 ⟨rfl, hb, hx, htw2⟩; have HT2 := Lib.hid htw2; replace q1 := (m_kept (p := ⟨b6, 1, none⟩) hx).trans q1; replace q2 := (m_kept (p := ⟨b6, 2, none⟩) hx).trans q2; replace q3 := (m_kept (p := ⟨b6, 3, none⟩) hx).trans q3; replace HB := Lib.hid (HB.out.trans hb); clear hb hx; clear htw2)))
        all_goals (go_upto_region 30 with fail)
        have HP := Lib.hid HT2.out.twin
        obtain ⟨Q, hQ⟩ : ∃ Q, q = Q := ⟨_, rfl⟩
        rw [hQ] at HP
        clear q1 q2 q3 HT HT2 gh
        obtain ⟨ao, cp, cc⟩ := HP.out.cell2
        have LN := Lib.hid ((HP.out.below (Below.refl _ _).drew).len1)
        have gq : ((Q : Int) != (Q : Int)) = false := by simp
        go_region_held3 (fun w' => w'.cell? ⟨b2, 0, none⟩ = some (Value.slice ao Q cp)) (exact cc) ((go_at_call 20; refine (LN.out).mono ?_; rintro e w' ⟨rfl, rfl⟩))
        all_goals (go_wp2_with fail)
        all_goals exact ⟨⟨k + 1, Q, p, by omega, by omega, by go_num, rfl, Lib.hid ⟨HB.out.drew, HP.out.below (Below.refl _ _).drew⟩⟩, by simp [intOf]; omega⟩
      · obtain ⟨gv, gb, hg⟩ := get_t HT.out id at'
        have HG := Lib.hid hg
        have g1 : (gv != gv) = false := by simp
        have g2 : (gb != gb) = false := by simp
        clear hg
        go_upto_region 30 with (first | (go_at_call 10; refine (HG.out.1).mono ?_; rintro e w1 ⟨rfl, rfl⟩) | (go_at_call 17; refine (HG.out.2).mono ?_; rintro e w1 ⟨rfl, rfl⟩))
        have HP := Lib.hid HT.out.twin
        obtain ⟨Q, hQ⟩ : ∃ Q, q = Q := ⟨_, rfl⟩
        rw [hQ] at HP
        clear q0 q1 q2 q3 HT HG g1 g2
        obtain ⟨ao, cp, cc⟩ := HP.out.cell2
        have LN := Lib.hid ((HP.out.below (Below.refl _ _).drew).len1)
        have gq : ((Q : Int) != (Q : Int)) = false := by simp
        go_region_held3 (fun w' => w'.cell? ⟨b2, 0, none⟩ = some (Value.slice ao Q cp)) (exact cc) ((go_at_call 20; refine (LN.out).mono ?_; rintro e w' ⟨rfl, rfl⟩))
        all_goals (go_wp2_with fail)
        all_goals exact ⟨⟨k + 1, Q, p, by omega, by omega, by go_num, rfl, Lib.hid ⟨HB.out.drew, HP.out.below (Below.refl _ _).drew⟩⟩, by simp [intOf]; omega⟩
      · have hq9 : q ≤ 1000 := by omega
        clear q2 q3
        go_upto_region 30 with (first | (go_at_call 18; refine (cut1_t HT.out id).mono ?_; clear HT; rintro e w1 ⟨rfl, hb, hx, htw1⟩; have HT1 := Lib.hid htw1; replace q1 := (m_kept (p := ⟨b6, 1, none⟩) hx).trans q1; replace HB := Lib.hid (HB.out.trans hb); clear hb hx; clear htw1) | (go_at_call 19; refine (cut2_t HT1.out hq9 id).mono ?_; clear HT1; rintro e w2 ⟨rfl, hb, hx, htw2⟩; have HT2 := Lib.hid htw2; replace q1 := (m_kept (p := ⟨b6, 1, none⟩) hx).trans q1; replace HB := Lib.hid (HB.out.trans hb); clear hb hx; clear htw2))
        have HP := Lib.hid HT2.out.twin
        have hcl := cutM_le id q
        obtain ⟨Q, hQ⟩ : ∃ Q, cutM id q = Q := ⟨_, rfl⟩
        rw [hQ] at HP hcl
        clear q1 HT2
        obtain ⟨ao, cp, cc⟩ := HP.out.cell2
        have LN := Lib.hid ((HP.out.below (Below.refl _ _).drew).len1)
        have gq : ((Q : Int) != (Q : Int)) = false := by simp
        go_region_held3 (fun w' => w'.cell? ⟨b2, 0, none⟩ = some (Value.slice ao Q cp)) (exact cc) ((go_at_call 20; refine (LN.out).mono ?_; rintro e w' ⟨rfl, rfl⟩))
        all_goals (go_wp2_with fail)
        all_goals exact ⟨⟨k + 1, Q, p, by omega, by omega, by go_num, rfl, Lib.hid ⟨HB.out.drew, HP.out.below (Below.refl _ _).drew⟩⟩, by simp [intOf]; omega⟩
      · have hq9 : q ≤ 1000 := by omega
        clear q1 q2 q3
        go_upto_region 30 with (go_at_call 13; refine (copy_t HT.out hq9).mono ?_; clear HT; rintro e w1 ⟨p9, rfl, hb, hx, htw1⟩; have HT1 := Lib.hid htw1; replace HB := Lib.hid (HB.out.trans hb); clear hb hx htw1)
        have HP := Lib.hid HT1.out.twin
        obtain ⟨Q, hQ⟩ : ∃ Q, q = Q := ⟨_, rfl⟩
        rw [hQ] at HP
        clear HT1
        obtain ⟨ao, cp, cc⟩ := HP.out.cell2
        have LN := Lib.hid ((HP.out.below (Below.refl _ _).drew).len1)
        have gq : ((Q : Int) != (Q : Int)) = false := by simp
        go_region_held3 (fun w' => w'.cell? ⟨b2, 0, none⟩ = some (Value.slice ao Q cp)) (exact cc) ((go_at_call 20; refine (LN.out).mono ?_; rintro e w' ⟨rfl, rfl⟩))
        all_goals (go_wp2_with fail)
        all_goals exact ⟨⟨k + 1, Q, p9, by omega, by omega, by go_num, rfl, Lib.hid ⟨HB.out.drew, HP.out.below (Below.refl _ _).drew⟩⟩, by simp [intOf]; omega⟩
      · have HX := Lib.hid hx
        have e0 : (x == 0) = false := by simp; omega
        have e1 : (x == 1) = false := by simp; omega
        have e2 : (x == 2) = false := by simp; omega
        have e3 : (x == 3) = false := by simp; omega
        have e4 : (x == 4) = false := by simp; omega
        have e5 : (x == 5) = false := by simp; omega
        have e6 : (x == 6) = false := by simp; omega
        have e7 : (x == 7) = false := by simp; omega
        clear hx q1 q2 q3
        go_upto_region 30 with fail
        have HP := Lib.hid HT.out.twin
        obtain ⟨Q, hQ⟩ : ∃ Q, q = Q := ⟨_, rfl⟩
        rw [hQ] at HP
        clear HT q0 HX e0 e1 e2 e3 e4 e5 e6 e7
        obtain ⟨ao, cp, cc⟩ := HP.out.cell2
        have LN := Lib.hid ((HP.out.below (Below.refl _ _).drew).len1)
        have gq : ((Q : Int) != (Q : Int)) = false := by simp
        go_region_held3 (fun w' => w'.cell? ⟨b2, 0, none⟩ = some (Value.slice ao Q cp)) (exact cc) ((go_at_call 20; refine (LN.out).mono ?_; rintro e w' ⟨rfl, rfl⟩))
        all_goals (go_wp2_with fail)
        all_goals exact ⟨⟨k + 1, Q, p, by omega, by omega, by go_num, rfl, Lib.hid ⟨HB.out.drew, HP.out.below (Below.refl _ _).drew⟩⟩, by simp [intOf]; omega⟩
    · obtain rfl : k = n := by omega
      have q120 : q ≤ 120 := by omega
      clear hk hlt hq HZ
      obtain ⟨wo, rfl⟩ : ∃ wo : World, wo = wr := ⟨_, rfl⟩
      go_wp2_with fail
      go_loopw [11] (fun i wl => ∃ y : Int, -1 ≤ y ∧ y ≤ q + 1 ∧ i = .int .i64 y ∧ Hid (Below wo.heap.size wo wl)) (fun i _ => (q + 1 - intOf i).toNat)
      case atStart => exact ⟨-1, by omega, by omega, rfl, Lib.hid (Below.refl _ _)⟩
      case round =>
        obtain ⟨y, hy0, hy1, rfl, HBl⟩ := hrel
        have HT := Lib.hid (HI.out.2.below HBl.out)
        have HB := Lib.hid (below_next HI.out.1 HI.out.1.size HBl.out)
        obtain ⟨ao, cp, cc⟩ := HT.out.cell2
        by_cases hle : y ≤ q
        · have g : decide (y ≤ (q : Int)) = true := decide_eq_true hle
          by_cases hin : 0 ≤ y ∧ y < q
          · obtain ⟨t, l, f, hl, hbt⟩ := HT.out.blocks y hin.1 hin.2
            have HBT := Lib.hid hbt
            clear hbt hin
            go_upto_region 36 with (go_at_call 14; refine (HBT.out.1 _ (Below.refl _ _)).mono ?_; rintro e w1 ⟨g1, k1, rfl, hr1⟩)
            refine at_world (fun W => Hid (Below wr.heap.size wr W ∧ RowC W (some ⟨g1, 0, none⟩) l f) ∧ W.cell? ⟨w1.heap.size, 0, none⟩ = some (Value.int .i64 t) ∧ W.cell? ⟨w1.heap.size, 1, none⟩ = some (Value.slice (some ⟨g1, 0, none⟩) l k1)) ⟨Lib.hid ⟨hr1.bel.alloc hr1.bel.size _, (hr1.rowc hl).below ((Below.refl _ _).alloc (Nat.le_refl _) _)⟩, by simp [go_sem], by simp [go_sem]⟩ ?_
            obtain ⟨b12, hb12⟩ : ∃ b, w1.heap.size = b := ⟨_, rfl⟩
            simp only [hb12]
            clear hr1 hb12 cc w1
            intro W2 ⟨HW2, c0, c1⟩
            go_upto_region 37 with (go_at_call 21; refine (HBT.out.2 _ HW2.out.1).mono ?_; rintro e w1 ⟨g2, k2, rfl, hr2⟩)
            refine at_world (fun W => Hid (Below wr.heap.size wr W ∧ RowC W (some ⟨g1, 0, none⟩) l f ∧ RowC W (some ⟨g2, 0, none⟩) l f) ∧ W.cell? ⟨b12, 0, none⟩ = some (Value.int .i64 t) ∧ W.cell? ⟨b12, 1, none⟩ = some (Value.slice (some ⟨g1, 0, none⟩) l k1) ∧ W.cell? ⟨w1.heap.size, 0, none⟩ = some (Value.int .i64 t) ∧ W.cell? ⟨w1.heap.size, 1, none⟩ = some (Value.slice (some ⟨g2, 0, none⟩) l k2)) ⟨Lib.hid ⟨(below_next HW2.out.1 HW2.out.1.size hr2.bel).alloc (Nat.le_trans HW2.out.1.size hr2.bel.size) _, (HW2.out.2.below hr2.bel).below ((Below.refl _ _).alloc (Nat.le_refl _) _), (hr2.rowc hl).below ((Below.refl _ _).alloc (Nat.le_refl _) _)⟩, cell_later ((Below.refl _ _).alloc (Nat.le_refl _) _) (cell_later hr2.bel c0), cell_later ((Below.refl _ _).alloc (Nat.le_refl _) _) (cell_later hr2.bel c1), by simp [go_sem], by simp [go_sem]⟩ ?_
            obtain ⟨b14, hb14⟩ : ∃ b, w1.heap.size = b := ⟨_, rfl⟩
            simp only [hb14]
            clear hr2 hb14 c0 c1 HW2 HBT w1
            intro W3 ⟨HW3, c0, c1, d0, d1⟩
            go_wp2_with (go_at_call 22; refine (sameBlock_c t (some ⟨g1, 0, none⟩) (some ⟨g2, 0, none⟩) l k1 k2 f _ HW3.out.2.1 HW3.out.2.2).mono ?_; rintro e w1 ⟨rfl, hb⟩)
            all_goals exact ⟨⟨y + 1, by omega, by omega, by go_num, Lib.hid (below_next HBl.out HBl.out.size (below_next HW3.out.1 HW3.out.1.size hb))⟩, by simp [intOf]; omega⟩
          · have HBT := Lib.hid (HT.out.noBlocks y hin)
            clear hin
            go_upto_region 36 with (go_at_call 14; refine (HBT.out.1 _ (Below.refl _ _)).mono ?_; rintro e w1 ⟨rfl, hr1⟩)
            refine at_world (fun W => Hid (Below wr.heap.size wr W) ∧ W.cell? ⟨w1.heap.size, 0, none⟩ = some (Value.int .i64 0) ∧ W.cell? ⟨w1.heap.size, 1, none⟩ = some (Value.slice none 0 0)) ⟨Lib.hid (hr1.alloc hr1.size _), by simp [go_sem], by simp [go_sem]⟩ ?_
            obtain ⟨b12, hb12⟩ : ∃ b, w1.heap.size = b := ⟨_, rfl⟩
            simp only [hb12]
            clear hr1 hb12 cc w1
            intro W2 ⟨HW2, c0, c1⟩
            go_upto_region 37 with (go_at_call 21; refine (HBT.out.2 _ HW2.out).mono ?_; rintro e w1 ⟨rfl, hr2⟩)
            refine at_world (fun W => Hid (Below wr.heap.size wr W) ∧ W.cell? ⟨b12, 0, none⟩ = some (Value.int .i64 0) ∧ W.cell? ⟨b12, 1, none⟩ = some (Value.slice none 0 0) ∧ W.cell? ⟨w1.heap.size, 0, none⟩ = some (Value.int .i64 0) ∧ W.cell? ⟨w1.heap.size, 1, none⟩ = some (Value.slice none 0 0)) ⟨Lib.hid ((below_next HW2.out HW2.out.size hr2).alloc (Nat.le_trans HW2.out.size hr2.size) _), cell_later ((Below.refl _ _).alloc (Nat.le_refl _) _) (cell_later hr2 c0), cell_later ((Below.refl _ _).alloc (Nat.le_refl _) _) (cell_later hr2 c1), by simp [go_sem], by simp [go_sem]⟩ ?_
            obtain ⟨b14, hb14⟩ : ∃ b, w1.heap.size = b := ⟨_, rfl⟩
            simp only [hb14]
            clear hr2 hb14 c0 c1 HW2 HBT w1
            intro W3 ⟨HW3, c0, c1, d0, d1⟩
            go_wp2_with (go_at_call 22; refine (sameBlock_c 0 none none 0 0 0 (fun _ => 0) _ (rowc0 _) (rowc0 _)).mono ?_; rintro e w1 ⟨rfl, hb⟩)
            all_goals exact ⟨⟨y + 1, by omega, by omega, by go_num, Lib.hid (below_next HBl.out HBl.out.size (below_next HW3.out HW3.out.size hb))⟩, by simp [intOf]; omega⟩
        · have g : decide (y ≤ (q : Int)) = false := decide_eq_false hle
          go_wp2_with (go_at_call 12; refine (awake7_c _).mono ?_; rintro e w1 ⟨rfl, hb⟩)
          go_ret
          exact ⟨rfl, below_next HB.out HB.out.size hb⟩
end Go.Proofs.Ytfhpijemjcdhoaa.C
