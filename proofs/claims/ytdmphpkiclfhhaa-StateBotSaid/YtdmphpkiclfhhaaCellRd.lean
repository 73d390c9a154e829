/- cells.Read, r14.Read: walks. -/
import Derived.Test.YtdmphpkiclfhhaaCell
namespace Go.Proofs.Ytdmphpkiclfhhaa.C
open Go.RowKit
set_option linter.unusedSimpArgs false
set_option linter.unusedVariables false
attribute [local go_sem] fieldItv0 fieldItv1
set_option maxRecDepth 100000 in
set_option maxHeartbeats 3200000 in
theorem read_c (A : Option Addr) (n cap : Nat) (r : Nat → Int × Int) (a b : Int) (w : World) (hr : CR w A n r) :
    Calls Try.prog 72 #[.slice A n cap, .agg #[.int .i64 a, .int .i64 b]] w fun e w' => e = .returned (.agg #[.int .i64 ((readC r a b n).1), .int .i64 ((readC r a b n).2)]) ∧ Below w.heap.size w w' := by
  have hmax := hr.1
  have HR := Lib.hid hr
  clear hr
  go_enter Try.func72, Try.ntmps72
  go_upto_region 1 with fail
  refine at_world (fun W => Hid (Below w.heap.size w W ∧ W.heap.size = w.heap.size + 1 + 1 ∧ Bx w.heap.size W a b ∧ Bx (w.heap.size + 1) W 0 0)) ?_ ?_
  · have h2 := Bx.new (w.alloc (.cells #[.int .i64 a, .int .i64 b] 39)) 39 0 0
    have e2 : (w.alloc (.cells #[.int .i64 a, .int .i64 b] 39)).heap.size = w.heap.size + 1 := by simp
    rw [e2] at h2
    exact Lib.hid ⟨(by repeat' (first | exact Below.refl _ _ | (refine Below.alloc ?_ ?_ _) | (refine Below.setCell ?_ ?_ _) | (refine Below.drew ?_) | (refine below_next ?_ ?_ (by assumption)) | omega | (simp; done) | (simp; omega))), by simp, (Bx.new w _ a b).below ((Below.refl _ _).alloc (Nat.le_refl _) _), h2⟩
  intro W0 H0
  go_upto_region 2 with (go_at_call 70; refine (itvNone_c _).mono ?_; rintro e w1 ⟨rfl, hb⟩)
  refine at_world (fun W => Hid (RdIn w w1.heap.size a b 1 0 W)) ?_ ?_
  · have hs := hb.size
    have hs0 := H0.out.2.1
    have ha : Below W0.heap.size W0 (w1.alloc (.cells #[.int .i64 1, .int .i64 0] 39)) := hb.alloc hs _
    exact Lib.hid ⟨below_next H0.out.1 H0.out.1.size ha, by omega, H0.out.2.2.1.below ha, H0.out.2.2.2.below ha, Bx.new _ _ _ _⟩
  obtain ⟨b5, hb5⟩ : ∃ b, w1.heap.size = b := ⟨_, rfl⟩
  simp only [hb5]
  clear hb hb5 H0 w1 W0
  intro W1 H1
  go_wp2_with fail
  go_loopw [11] (fun v wr => ∃ k : Nat, k ≤ n ∧ v = .int .i64 k ∧ RdIn w b5 a b (readC r a b k).1 (readC r a b k).2 wr) (fun v _ => n - (intOf v).toNat)
  case atStart => exact ⟨0, by omega, rfl, H1.out⟩
  case round =>
    obtain ⟨k, hk, rfl, hi⟩ := hrel
    have HI := Lib.hid hi
    clear hi
    obtain ⟨wo, rfl⟩ : ∃ wo : World, wo = wr := ⟨_, rfl⟩
    by_cases hlt : k < n
    · obtain ⟨ad, rfl, had, c0, c1⟩ := (HR.out.below HI.out.1).at hlt
      have hk0 : (0 : Int) ≤ (k : Int) := by omega
      have hk1 : (k : Int) < (n : Int) := by omega
      obtain ⟨p, hp⟩ : ∃ p, r k = p := ⟨_, rfl⟩
      obtain ⟨q, hq⟩ : ∃ q, readC r a b k = q := ⟨_, rfl⟩
      have hnext : readC r a b (k + 1) = if a ≤ (k : Int) ∧ (k : Int) ≤ b then joinI q.1 q.2 p.1 p.2 else q := by rw [← hp, ← hq]; rfl
      rw [hp] at c0 c1
      rw [hq] at HI
      have HN := Lib.hid hnext
      clear hp hq hnext
      go_upto_region 5 with fail
      refine at_world (fun W => Hid (RdIn w b5 a b q.1 q.2 W ∧ Bx wo.heap.size W p.1 p.2)) (Lib.hid ⟨HI.out.below ((Below.refl _ _).alloc (Nat.le_refl _) _), Bx.new _ _ _ _⟩) ?_
      obtain ⟨b7, hb7⟩ : ∃ b, wo.heap.size = b := ⟨_, rfl⟩
      simp only [hb7]
      clear c0 c1 had HI hb7
      intro W2 H2
      have k3 := H2.out.1.2.2.1.2.1
      by_cases hin : a ≤ (k : Int) ∧ (k : Int) ≤ b
      · have LH := fun W => itvHas_c a b k W
        rw [decide_eq_true hin] at LH
        rw [if_pos hin] at HN
        obtain ⟨z, hz⟩ : ∃ z, joinI q.1 q.2 p.1 p.2 = z := ⟨_, rfl⟩
        have LJ := fun W => itvJoin_c q.1 q.2 p.1 p.2 W
        rw [hz] at HN
        simp only [hz] at LJ
        clear hin hz
        go_upto_region 6 with (go_at_call 110; refine (LH _).mono ?_; rintro e w3 ⟨rfl, hb3⟩)
        refine at_world (fun W => Hid (RdIn w b5 a b q.1 q.2 W ∧ Bx b7 W p.1 p.2)) (Lib.hid ⟨H2.out.1.below hb3, H2.out.2.below hb3⟩) ?_
        clear k3 H2 hb3 w3
        intro W3 H3
        have k5 := H3.out.1.2.2.2.2.2.1
        have k7 := H3.out.2.2.1
        go_upto_region 7 with (go_at_call 111; refine (LJ _).mono ?_; rintro e w4 ⟨rfl, hb4⟩; have HI4 := Lib.hid (H3.out.1.below hb4); have k5b := HI4.out.2.2.2.2.2.1; have f5b := HI4.out.2.2.2.2.2.2)
        go_wp2_with fail
        all_goals exact ⟨⟨k + 1, by omega, by go_num, by rw [HN.out]; exact HI4.out.put _ _⟩, by simp [intOf]; omega⟩
      · have LH := fun W => itvHas_c a b k W
        rw [decide_eq_false hin] at LH
        rw [if_neg hin] at HN
        clear hin
        go_wp2_with (go_at_call 110; refine (LH _).mono ?_; rintro e w3 ⟨rfl, hb3⟩)
        all_goals exact ⟨⟨k + 1, by omega, by go_num, by rw [HN.out]; exact H2.out.1.below hb3⟩, by simp [intOf]; omega⟩
    · obtain rfl : k = n := by omega
      have k5 := HI.out.2.2.2.2.2.1
      have k4 := HI.out.2.2.2.1.2.1
      have f4 := HI.out.2.2.2.1.2.2
      have hne := HI.out.2.1
      obtain ⟨q, hq⟩ : ∃ q, readC r a b k = q := ⟨_, rfl⟩
      rw [hq] at k5
      have HQ := Lib.hid hq
      clear hk hlt hq
      go_wp2_with fail
      refine bodyPost_ret (v := .agg #[.int .i64 (q.1), .int .i64 (q.2)]) (by simp [results, Try.results72, go_sem, *]) rfl ⟨by rw [HQ.out], ?_⟩
      exact (HI.out.1.setCell (by show w.heap.size ≤ w.heap.size + 1; omega) _).setCell (by show w.heap.size ≤ w.heap.size + 1; omega) _
end Go.Proofs.Ytdmphpkiclfhhaa.C
