/- zone.Move by itself, zone.Bound: walks. -/
import Derived.Test.YtnopjijhbflfdaaZOps
import Derived.Test.YtnopjijhbflfdaaTwo
namespace Go.Proofs.Ytnopjijhbflfdaa.Z
/-- Row and column i moved by c, as far as k. -/
def SM (m : M) (i : Nat) (c : Int) (k : Nat) : M := fun a b => if a = i ∧ b < k ∧ b ≠ i then min (sumZ (m i b) c) 1099511627776 else if b = i ∧ a < k ∧ a ≠ i then min (sumZ (m a i) (-c)) 1099511627776 else m a b
theorem SM_none (m : M) (i n : Nat) (c : Int) : Alike m (SM m i c 0) n := fun a b _ _ => by unfold SM; rw [if_neg (by omega), if_neg (by omega)]
theorem SM_skip (m : M) (i n : Nat) (c : Int) : Alike (SM m i c i) (SM m i c (i + 1)) n := fun a b _ _ => by
  unfold SM
  (repeat' split) <;> omega
theorem SM_at (m : M) (i : Nat) (c : Int) (k : Nat) (_h : k ≠ i) : SM m i c k i k = m i k ∧ SM m i c k k i = m k i := by
  unfold SM
  rw [if_neg (by omega), if_neg (by omega), if_neg (by omega), if_neg (by omega)]
  exact ⟨rfl, rfl⟩
theorem SM_step (m : M) (i k n : Nat) (c : Int) (h : k ≠ i) : Alike (upd (upd (SM m i c k) i k (min (sumZ (m i k) c) 1099511627776)) k i (min (sumZ (m k i) (-c)) 1099511627776)) (SM m i c (k + 1)) n := fun a b _ _ => by
  unfold upd SM
  by_cases e1 : a = k ∧ b = i
  · obtain ⟨rfl, rfl⟩ := e1
    (repeat' split) <;> omega
  · by_cases e2 : a = i ∧ b = k
    · obtain ⟨rfl, rfl⟩ := e2
      (repeat' split) <;> omega
    · (repeat' split) <;> omega
theorem SM_fit {m : M} {n : Nat} (i : Nat) (c : Int) (k : Nat) (h : Fit m n) : Fit (SM m i c k) n := fun a b ha hb => by
  have h1 := h a b ha hb
  have h2 := sum_fit (m i b) c
  have h3 := sum_fit (m a i) (-c)
  unfold SM
  (repeat' split) <;> omega
end Go.Proofs.Ytnopjijhbflfdaa.Z
namespace Go.Proofs.Ytnopjijhbflfdaa.C
open Go.RowKit
set_option linter.unusedSimpArgs false
set_option linter.unusedVariables false
def selfM (m : Z.M) (i n : Nat) (c : Int) : Z.M := Z.SM (Z.clampM m) i c n
set_option maxRecDepth 100000 in
set_option maxHeartbeats 6400000 in
theorem zself_c (a : Addr) (n cap i : Nat) (c : Int) (m : Z.M) (w : World) (hn : 1 ≤ n) (hn2 : n ≤ 1000) (hm : RM w a n m) (hi : i < n) (hi2 : 1 ≤ i) (hc : -1099511627776 ≤ c ∧ c ≤ 1099511627776) :
    Calls Try.prog 17 #[.agg #[.slice (some a) n cap], .int .i64 i, .int .i64 i, .int .i64 c] w (NewM2 w n (Z.closeM (selfM m i n c) n)) := by
  have HM := Lib.hid hm
  clear hm
  go_enter Try.func17, Try.ntmps17
  go_upto_region 1 with fail
  refine at_world (fun W => Hid (Below w.heap.size w W ∧ W.heap.size = w.heap.size + 1 + 1) ∧ (∀ o, W.cell? ⟨w.heap.size, o, none⟩ = [Value.slice (some a) n cap][o]?) ∧ (∀ o, W.frozen? ⟨w.heap.size, o, none⟩ = false) ∧ Hid ((∀ o, W.cell? ⟨w.heap.size + 1, o, none⟩ = [Value.slice none 0 0][o]?) ∧ (∀ o, W.frozen? ⟨w.heap.size + 1, o, none⟩ = false))) ⟨Lib.hid ⟨(by repeat' (first | exact Below.refl _ _ | (refine Below.alloc ?_ ?_ _) | (refine Below.setCell ?_ ?_ _) | (refine Below.drew ?_) | (refine below_next ?_ ?_ (by assumption)) | omega | (simp; done) | (simp; omega))), by simp⟩, (by intro o; simp [go_sem]), (by intro o; simp [go_sem]), Lib.hid ⟨(by intro o; simp [go_sem]), (by intro o; simp [go_sem])⟩⟩ ?_
  intro W0 ⟨HB0, k0, f0, HK1⟩
  go_upto_region 2 with (go_at_call 38; refine (cloned_c a n cap m _ hn hn2 (HM.out.below HB0.out.1)).mono ?_; rintro e w1 ⟨B, R, C, cap', rfl, hcap, hom, hb⟩; have k0' := fun o => (hb.cell (p := ⟨w.heap.size, o, none⟩) (by have := HB0.out.2; show w.heap.size < _; omega)).trans (k0 o); have f0' := fun o => (hb.frozen (p := ⟨w.heap.size, o, none⟩) (by have := HB0.out.2; show w.heap.size < _; omega)).trans (f0 o))
  refine at_world (fun W => Hid (Cloned w B R C n cap' (Z.clampM m) W)) (Lib.hid (cloned_at HB0.out ⟨_, k0 0⟩ (fun o ho => by rw [k0 o]; cases o with | zero => exact absurd rfl ho | succ o => rfl) HK1.out.1 HK1.out.2 hom hb)) ?_
  clear k0 f0 k0' f0' hom hb HB0 HK1 HM w1 W0
  intro W1 H1
  have k0 := H1.out.2.2.2.1
  have hs1 : w.heap.size < W1.heap.size := by have := H1.out.2.2.1; omega
  have HA1 := fun W => has_in (some ⟨B, 0, none⟩) n cap' i hi W
  have HA2 := fun W => has_in (some ⟨B, 0, none⟩) n cap' i hi W
  have g0 : ((i : Int) == 0) = false := by simp; omega
  go_upto_region 8 with (first | (go_at_call 39; refine (HA1 _).mono ?_; clear HA1; rintro e w' ⟨rfl, rfl⟩) | (go_at_call 39; refine (HA2 _).mono ?_; clear HA2; rintro e w' ⟨rfl, rfl⟩))
  refine at_world (fun W => Hid (Cloned w B R C n cap' (Z.clampM m) W)) (Lib.hid (H1.out.below (by repeat' (first | exact Below.refl _ _ | (refine Below.alloc ?_ ?_ _) | (refine Below.setCell ?_ ?_ _) | (refine Below.drew ?_) | (refine below_next ?_ ?_ (by assumption)) | omega | (simp; done) | (simp; omega))))) ?_
  clear k0 H1 hs1 W1 g0
  intro W2 H2
  have k0 := H2.out.2.2.2.1
  have HF0 := Lib.hid (Z.clampM_fit m n)
  have HM0 : Hid (selfM m i n c = Z.SM (Z.clampM m) i c n) := Lib.hid rfl
  obtain ⟨M, hM⟩ : ∃ M, Z.clampM m = M := ⟨_, rfl⟩
  rw [hM] at H2 HF0 HM0
  clear hM
  go_wp2_with fail
  clear k0
  go_loopw [60] (fun v wr => ∃ k : Nat, k ≤ n ∧ v = .int .i64 k ∧ Cloned w B R C n cap' (Z.SM M i c k) wr) (fun v _ => n - (intOf v).toNat)
  case atStart => exact ⟨0, by omega, rfl, H2.out.1, H2.out.2.1.alike (Z.SM_none M i n c), H2.out.2.2⟩
  case round =>
    obtain ⟨k, hk, rfl, hcl⟩ := hrel
    have HC := Lib.hid hcl
    clear hcl
    obtain ⟨wo, rfl⟩ : ∃ wo : World, wo = wr := ⟨_, rfl⟩
    by_cases hlt : k < n
    · by_cases e : k = i
      · have g1 : ((k : Int) != (i : Int)) = false := by simp; omega
        have HM : Hid (Cloned w B R C n cap' (Z.SM M i c (k + 1)) wo) := Lib.hid ⟨HC.out.1, HC.out.2.1.alike (by subst e; exact Z.SM_skip M k n c), HC.out.2.2⟩
        clear e
        go_wp2_with fail
        all_goals exact ⟨⟨k + 1, by omega, by go_num, HM.out⟩, by simp [intOf]; omega⟩
      · have g1 : ((k : Int) != (i : Int)) = true := by simp; omega
        have k00 := HC.out.2.2.2.1 0
        simp at k00
        have c1 := HC.out.2.1.outer i hi
        have c2 := HC.out.2.1.outer k hlt
        have c3 := HC.out.2.1.inner i k hi hlt
        have c4 := HC.out.2.1.inner k i hlt hi
        have f3 := HC.out.2.1.frz i k hi hlt
        have f4 := HC.out.2.1.frz k i hlt hi
        have n1 : R i ≠ B := (HC.out.2.1.hR i hi).2.2.1
        have n2 : R k ≠ B := (HC.out.2.1.hR k hlt).2.2.1
        have n3 : R i ≠ w.heap.size := by have := (HC.out.2.1.hR i hi).1; omega
        have n4 : R k ≠ w.heap.size := by have := (HC.out.2.1.hR k hlt).1; omega
        have n5 : R i ≠ R k := fun q => e (HC.out.2.1.inj i k hi hlt q).symm
        have n5' : R k ≠ R i := fun q => n5 q.symm
        have hi0 : (0 : Int) ≤ (i : Int) := by omega
        have hi1 : (i : Int) < (n : Int) := by omega
        have hk0 : (0 : Int) ≤ (k : Int) := by omega
        have hk1 : (k : Int) < (n : Int) := by omega
        rw [(Z.SM_at M i c k e).1] at c3
        rw [(Z.SM_at M i c k e).2] at c4
        have b3 := HF0.out i k hi hlt
        have b4 := HF0.out k i hlt hi
        have HE := Lib.hid (Z.SM_step M i k n c e)
        obtain ⟨v3, hv3⟩ : ∃ v, M i k = v := ⟨_, rfl⟩
        obtain ⟨v4, hv4⟩ : ∃ v, M k i = v := ⟨_, rfl⟩
        rw [hv3] at c3 b3 HE
        rw [hv4] at c4 b4 HE
        have S1 := fun W => sum_c v3 c W b3.1 b3.2 hc.1 hc.2
        have S2 := fun W => sum_c v4 (-c) W b4.1 b4.2 (by omega) (by omega)
        obtain ⟨s1, hs1⟩ : ∃ v, Z.sumZ v3 c = v := ⟨_, rfl⟩
        obtain ⟨s2, hs2⟩ : ∃ v, Z.sumZ v4 (-c) = v := ⟨_, rfl⟩
        rw [hs1] at HE
        rw [hs2] at HE
        simp only [hs1] at S1
        simp only [hs2] at S2
        obtain ⟨y1, hy1⟩ : ∃ y : Int, (if (1099511627776 : Int) < s1 then (1099511627776 : Int) else s1) = y := ⟨_, rfl⟩
        obtain ⟨y2, hy2⟩ : ∃ y : Int, (if (1099511627776 : Int) < s2 then (1099511627776 : Int) else s2) = y := ⟨_, rfl⟩
        have HY : Hid (min s1 1099511627776 = y1 ∧ min s2 1099511627776 = y2) := Lib.hid ⟨by rw [← hy1]; split <;> omega, by rw [← hy2]; split <;> omega⟩
        rw [HY.out.1, HY.out.2] at HE
        have ec : IntKind.i64.wrap (-c) = -c := IntWalk.i64_in _ (by omega)
        clear hv3 hv4 hs1 hs2 HY e b3 b4
        go_upto_region 12 with fail
        have hb0 : w.heap.size < wo.heap.size := by have := HC.out.2.2.1; omega
        have E0 : ∀ x : WIn (fun w' => w' = wo.drew), x.w = wo.drew := fun x => x.h
        have e0 : ∀ x : WIn (fun w' => w' = wo.drew), x.w.cell? ⟨w.heap.size, 0, none⟩ = some (.slice (some ⟨B, 0, none⟩) n cap') := fun x => by rw [E0 x]; exact k00
        have e1 : ∀ x : WIn (fun w' => w' = wo.drew), x.w.cell? ⟨B, i, none⟩ = some (.slice (some ⟨R i, 0, none⟩) n (C i)) := fun x => by rw [E0 x]; exact c1
        have e2 : ∀ x : WIn (fun w' => w' = wo.drew), x.w.cell? ⟨B, k, none⟩ = some (.slice (some ⟨R k, 0, none⟩) n (C k)) := fun x => by rw [E0 x]; exact c2
        have e3 : ∀ x : WIn (fun w' => w' = wo.drew), x.w.cell? ⟨R i, k, none⟩ = some (.int .i64 v3) := fun x => by rw [E0 x]; exact c3
        have e4 : ∀ x : WIn (fun w' => w' = wo.drew), x.w.cell? ⟨R k, i, none⟩ = some (.int .i64 v4) := fun x => by rw [E0 x]; exact c4
        have q0 : ∀ x : WIn (fun w' : World => w'.cell? ⟨w.heap.size, 0, none⟩ = some (.slice (some ⟨B, 0, none⟩) n cap') ∧ w'.cell? ⟨B, k, none⟩ = some (.slice (some ⟨R k, 0, none⟩) n (C k)) ∧ w'.cell? ⟨B, i, none⟩ = some (.slice (some ⟨R i, 0, none⟩) n (C i))), x.w.cell? ⟨w.heap.size, 0, none⟩ = some (.slice (some ⟨B, 0, none⟩) n cap') := fun x => x.h.1
        have q1 : ∀ x : WIn (fun w' : World => w'.cell? ⟨w.heap.size, 0, none⟩ = some (.slice (some ⟨B, 0, none⟩) n cap') ∧ w'.cell? ⟨B, k, none⟩ = some (.slice (some ⟨R k, 0, none⟩) n (C k)) ∧ w'.cell? ⟨B, i, none⟩ = some (.slice (some ⟨R i, 0, none⟩) n (C i))), x.w.cell? ⟨B, k, none⟩ = some (.slice (some ⟨R k, 0, none⟩) n (C k)) := fun x => x.h.2.1
        clear E0
        refine region_two 36 (fun w' => w'.cell? ⟨w.heap.size, 0, none⟩ = some (.slice (some ⟨B, 0, none⟩) n cap') ∧ w'.cell? ⟨B, k, none⟩ = some (.slice (some ⟨R k, 0, none⟩) n (C k)) ∧ w'.cell? ⟨B, i, none⟩ = some (.slice (some ⟨R i, 0, none⟩) n (C i)))
          [(true, _ :: _ :: _ :: _ :: _ :: [_]), (false, _ :: _ :: _ :: [_]), (true, [_]), (false, [_]), (true, _ :: _ :: _ :: _ :: _ :: _ :: _ :: _ :: _ :: _ :: [_]), (false, _ :: _ :: _ :: [_]), (true, [_]), (false, _ :: [_]), (true, [_]), (false, _ :: [_]), (true, [_]), (false, [_]), (true, [_])] (by kernel_rfl) ?hB rfl ⟨k00, c2, c1⟩ (fun _ _ => ?_)
        case hB => kernel_rfl
        (try simp only [wpSeg, twoC, if_true, Bool.false_eq_true, if_false])
        iterate 6 (go_big_quiet_step ((go_at_call 41; exact call_same _ (S1 _))))
        refine wpQuiet_nil ?_
        (try simp only [wpSeg, twoC, if_true, Bool.false_eq_true, if_false])
        iterate 4 (go_big_quiet_step ((go_at_call 41; exact call_same _ (S1 _))))
        refine wpQuiet_nil ?_
        (try simp only [wpSeg, twoC, if_true, Bool.false_eq_true, if_false])
        iterate 1 (go_big_quiet_step ((go_at_call 41; exact call_same _ (S1 _))))
        refine wpQuiet_nil ?_
        (try simp only [wpSeg, twoC, if_true, Bool.false_eq_true, if_false])
        iterate 1 (go_big_quiet_step ((go_at_call 41; exact call_same _ (S1 _))))
        refine wpQuiet_nil ?_
        (try simp only [wpSeg, twoC, if_true, Bool.false_eq_true, if_false])
        iterate 11 (go_big_quiet_step ((go_at_call 41; exact call_same _ (S1 _))))
        refine wpQuiet_nil ?_
        (try simp only [wpSeg, twoC, if_true, Bool.false_eq_true, if_false])
        iterate 4 (go_big_quiet_step ((go_at_call 41; exact call_same _ (S1 _))))
        refine wpQuiet_nil ?_
        (try simp only [wpSeg, twoC, if_true, Bool.false_eq_true, if_false])
        iterate 1 (go_big_quiet_step ((go_at_call 41; exact call_same _ (S2 _))))
        refine wpQuiet_nil ?_
        (try simp only [wpSeg, twoC, if_true, Bool.false_eq_true, if_false])
        iterate 2 (go_big_quiet_step ((go_at_call 41; exact call_same _ (S2 _))))
        refine wpQuiet_nil ?_
        (try simp only [wpSeg, twoC, if_true, Bool.false_eq_true, if_false])
        iterate 1 (go_big_quiet_step ((go_at_call 41; exact call_same _ (S2 _))))
        refine wpQuiet_nil ?_
        (try simp only [wpSeg, twoC, if_true, Bool.false_eq_true, if_false])
        iterate 2 (go_big_quiet_step ((go_at_call 41; exact call_same _ (S2 _))))
        refine wpQuiet_nil ?_
        (try simp only [wpSeg, twoC, if_true, Bool.false_eq_true, if_false])
        iterate 1 (go_big_quiet_step ((go_at_call 41; exact call_same _ (S2 _))))
        refine wpQuiet_nil ?_
        (try simp only [wpSeg, twoC, if_true, Bool.false_eq_true, if_false])
        iterate 1 (go_big_quiet_step ((go_at_call 41; exact call_same _ (S2 _))))
        refine wpQuiet_nil ?_
        (try simp only [wpSeg, twoC, if_true, Bool.false_eq_true, if_false])
        iterate 1 (go_big_quiet_step ((go_at_call 41; exact call_same _ (S2 _))))
        refine wpQuiet_nil ?_
        (try simp only [wpSeg, twoC, if_true, Bool.false_eq_true, if_false])
        refine wpOp_step rfl (fun K hK => ?_)
        go_simp
        refine hK _ _ ⟨⟨?_, ?_, ?_⟩, ?_⟩
        · show (wo.setCell ⟨R i, k, none⟩ (.int .i64 y1)).cell? _ = _
          rw [World.cell?_setCell_far _ _ _ _ n3]; exact k00
        · show (wo.setCell ⟨R i, k, none⟩ (.int .i64 y1)).cell? _ = _
          rw [World.cell?_setCell_far _ _ _ _ n1]; exact c2
        · show (wo.setCell ⟨R i, k, none⟩ (.int .i64 y1)).cell? _ = _
          rw [World.cell?_setCell_far _ _ _ _ n1]; exact c1
        clear hK K e0 e1 e2 e3 e4 q0 q1 S1 S2
        simp only [List.drop_succ_cons, List.drop_zero]
        go_wp2_with fail
        refine NoPanic.normal ?_
        go_wp2_with fail
        all_goals exact ⟨⟨k + 1, by omega, by go_num, HC.out.changed (((Kept.refl R n wo).setCell hi k _).drew.setCell hlt i _) (((HC.out.2.1.set hi hlt y1).drew.set hlt hi y2).alike HE.out)⟩, by simp [intOf]; omega⟩
    · obtain rfl : k = n := by omega
      rw [← HM0.out] at HC
      have HF : Hid (Z.Fit (selfM m i k c) k) := Lib.hid (by rw [HM0.out]; exact Z.SM_fit i c k HF0.out)
      clear HF0
      obtain ⟨M2, hM2⟩ : ∃ M, selfM m i k c = M := ⟨_, rfl⟩
      rw [hM2] at HC HF
      clear HM0
      have HM0 := Lib.hid hM2
      clear hM2 hk hlt
      have k0 := HC.out.2.2.2.1
      go_wp2_with (go_at_call 37; refine (closed_c (w.heap.size + 1 + 1) B R C k cap' M2 _ HC.out.2.1 hn hn2 HF.out (by have := HC.out.2.2.1; omega)).mono ?_; rintro e w2 ⟨hb2, hk2, hend⟩; have he := cloned_end (N := M2) HC.out hb2 hk2; obtain ⟨hbw, q1, q2⟩ := he; rcases hend with ⟨ok, rfl, hom2⟩ | ⟨ok, rfl⟩)
      · exact bodyPost_ret (v := .tuple #[.agg #[.slice (some ⟨B, 0, none⟩) k cap'], .bool true]) (by simp [results, Try.results17, go_sem, *]) rfl (by rw [HM0.out]; exact newm2_ok hbw ok hcap hom2 _)
      · exact bodyPost_ret (v := .tuple #[.agg #[.slice none 0 0], .bool false]) (by simp [results, Try.results17, go_sem, *]) rfl (by rw [HM0.out]; exact newm2_no hbw ok _)

end Go.Proofs.Ytnopjijhbflfdaa.C
