/- r1.Ints, r5.SameBlock of any two; r5.Changed: walks. -/
import Derived.Test.YtkgdogdallojlaaWatch3
namespace Go.Proofs.Ytkgdogdallojlaa.C
open Go.RowKit
set_option linter.unusedSimpArgs false
set_option linter.unusedVariables false
theorem rints_g (A B : Option Addr) (n m c1 c2 : Nat) (f g : Nat → Int) (w : World) (h1 : RowC w A n f) (h2 : RowC w B m g) :
    Calls Try.prog 32 #[.slice A n c1, .slice B m c2] w fun e w' => e = .returned (.bool (eqI f g n m)) ∧ Below w.heap.size w w' := by
  by_cases hnm : n = m
  · subst hnm
    have := ints_c A B n c1 c2 f g w h1 h2
    have e : decide (∀ j, j < n → f j = g j) = eqI f g n n := by unfold eqI; simp
    rw [e] at this
    exact this
  · have hmax := h1.1
    have hmax2 := h2.1
    have e0 : Hid (eqI f g n m = false) := Lib.hid (decide_eq_false (fun h => hnm h.1))
    have g : ((n : Int) = (m : Int)) = False := by simp; omega
    have g' : ((n : Int) != (m : Int)) = true := by rw [bne_iff_ne]; omega
    clear h1 h2
    go_enter Try.func32, Try.ntmps32
    go_wp2_with fail
    go_ret
    exact ⟨by rw [e0.out]; rfl, Below.refl _ _⟩
theorem sameBlock_g (t1 t2 : Int) (A B : Option Addr) (n m c1 c2 : Nat) (f g : Nat → Int) (w : World) (h1 : RowC w A n f) (h2 : RowC w B m g) :
    Calls Try.prog 23 #[.agg #[.int .i64 t1, .slice A n c1], .agg #[.int .i64 t2, .slice B m c2]] w fun e w' => e = .returned (.bool (decide (t1 = t2) && eqI f g n m)) ∧ Below w.heap.size w w' := by
  have IC : Hid (∀ W : World, Below w.heap.size w W → Calls Try.prog 32 #[.slice A n c1, .slice B m c2] W fun e w' => e = .returned (.bool (eqI f g n m)) ∧ Below W.heap.size W w') := Lib.hid (fun W hW => rints_g A B n m c1 c2 f g W (h1.below hW) (h2.below hW))
  clear h1 h2
  by_cases e : t1 = t2
  · subst e
    have e0 : Hid ((decide (t1 = t1) && eqI f g n m) = eqI f g n m) := Lib.hid (by simp)
    go_enter Try.func23, Try.ntmps23
    go_wp2_with (go_at_call 32; refine (IC.out _ (by repeat' (first | exact Below.refl _ _ | (refine Below.alloc ?_ ?_ _) | (refine Below.setCell ?_ ?_ _) | (refine Below.drew ?_) | (refine below_next ?_ ?_ (by assumption)) | omega | (simp; done) | (simp; omega)))).mono ?_; rintro e w' ⟨rfl, hb⟩)
    go_ret
    exact ⟨by rw [e0.out]; rfl, (by repeat' (first | exact Below.refl _ _ | (refine Below.alloc ?_ ?_ _) | (refine Below.setCell ?_ ?_ _) | (refine Below.drew ?_) | (refine below_next ?_ ?_ (by assumption)) | omega | (simp; done) | (simp; omega)))⟩
  · have e0 : Hid ((decide (t1 = t2) && eqI f g n m) = false) := Lib.hid (by simp [e])
    have ge : (t1 == t2) = false := by rw [beq_eq_false_iff_ne]; exact e
    go_enter Try.func23, Try.ntmps23
    go_wp2_with fail
    go_ret
    exact ⟨by rw [e0.out]; rfl, (by repeat' (first | exact Below.refl _ _ | (refine Below.alloc ?_ ?_ _) | (refine Below.setCell ?_ ?_ _) | (refine Below.drew ?_) | (refine below_next ?_ ?_ (by assumption)) | omega | (simp; done) | (simp; omega)))⟩
theorem hasI_step (f : Nat → Int) (n : Nat) (v : Int) : hasI f (n + 1) v = (hasI f n v || (f n == v)) := by
  rw [Bool.eq_iff_iff, hasI_spec, Bool.or_eq_true, hasI_spec, beq_iff_eq]
  constructor
  · rintro ⟨j, hj, e⟩
    by_cases c : j = n
    · exact .inr (by rw [← c]; exact e)
    · exact .inl ⟨j, by omega, e⟩
  · rintro (⟨j, hj, e⟩ | e)
    · exact ⟨j, by omega, e⟩
    · exact ⟨n, by omega, e⟩
set_option maxRecDepth 100000 in
set_option maxHeartbeats 12800000 in
theorem rchanged_c (p1 p2 : Nat) (A B : Option Addr) (q r ca cb : Nat) (ids may : Nat → Int) (T1 T2 : Int → Int) (l1 l2 : Int → Nat) (F1 F2 : Int → Nat → Int) (b1 b2 : Int → Bool) (w : World) (hA : RowC w A q ids) (hB : RowC w B r may)
    (h0 : ∀ id, b1 id = false → b2 id = false → diffM (b1 id) (b2 id) (T1 id) (T2 id) (F1 id) (F2 id) (l1 id) (l2 id) = false)
    (h1 : ∀ id W, Below w.heap.size w W → Calls Try.prog 22 #[.pointer (some ⟨p1, 0, none⟩), .int .i64 id] W (BlkPost (T1 id) (l1 id) (F1 id) (b1 id) W))
    (h2 : ∀ id W, Below w.heap.size w W → Calls Try.prog 22 #[.pointer (some ⟨p2, 0, none⟩), .int .i64 id] W (BlkPost (T2 id) (l2 id) (F2 id) (b2 id) W)) :
    Calls Try.prog 10 #[.pointer (some ⟨p1, 0, none⟩), .pointer (some ⟨p2, 0, none⟩), .slice A q ca, .slice B r cb] w fun e w' => e = .returned (.int .i64 (chgM ids q may r (fun id => diffM (b1 id) (b2 id) (T1 id) (T2 id) (F1 id) (F2 id) (l1 id) (l2 id)))) ∧ Below w.heap.size w w' := by
  obtain ⟨D, hD⟩ : ∃ D : Int → Bool, (fun id => diffM (b1 id) (b2 id) (T1 id) (T2 id) (F1 id) (F2 id) (l1 id) (l2 id)) = D := ⟨_, rfl⟩
  rw [hD]
  have HD := Lib.hid hD
  have hmax := hA.1
  have hmaxB := hB.1
  have HA := Lib.hid hA
  have HB := Lib.hid hB
  have H0 := Lib.hid h0
  have H1 := Lib.hid h1
  have H2 := Lib.hid h2
  clear hA hB h0 h1 h2 hD
  go_enter Try.func10, Try.ntmps10
  go_wp2_with fail
  go_loopw [9] (fun v wr => ∃ k : Nat, k ≤ q ∧ v = .int .i64 k ∧ Hid ((∀ j, j < k → (!hasI may r (ids j) && D (ids j)) = false) ∧ Below w.heap.size w wr)) (fun v _ => q - (intOf v).toNat)
  case atStart => exact ⟨0, by omega, rfl, Lib.hid ⟨fun j hj => absurd hj (by omega), Below.refl _ _⟩⟩
  case round =>
    obtain ⟨k, hk, rfl, HI⟩ := hrel
    by_cases hlt : k < q
    · obtain ⟨a, rfl, ha⟩ := (HA.out.below HI.out.2).2 (by omega)
      have c0 := ha k hlt
      have hk0 : (0 : Int) ≤ (k : Int) := by omega
      have hk1 : (k : Int) < (q : Int) := by omega
      clear ha
      obtain ⟨id, hid⟩ : ∃ x, ids k = x := ⟨_, rfl⟩
      rw [hid] at c0
      have HE : Hid (D id = diffM (b1 id) (b2 id) (T1 id) (T2 id) (F1 id) (F2 id) (l1 id) (l2 id)) := Lib.hid (by rw [← HD.out])
      have HE0 : Hid (b1 id = false → b2 id = false → D id = false) := Lib.hid (fun e1 e2 => by rw [HE.out]; exact H0.out id e1 e2)
      have HID := Lib.hid hid
      have HC0 := Lib.hid c0
      clear hid
      obtain ⟨wo, rfl⟩ : ∃ wo : World, wo = wr := ⟨_, rfl⟩
      go_wp2_with fail
      clear c0
      go_loopw [10, 11] (fun u v wr => ∃ t : Nat, t ≤ r ∧ u = .bool (hasI may t id) ∧ v = .int .i64 t ∧ Hid (Below wo.heap.size wo wr)) (fun _ v _ => r - (intOf v).toNat)
      case atStart => exact ⟨0, by omega, by simp [hasI], rfl, Lib.hid (Below.refl _ _)⟩
      case round =>
        obtain ⟨t, ht, rfl, rfl, HJ⟩ := hrel
        obtain ⟨wi, rfl⟩ : ∃ wi : World, wi = wr := ⟨_, rfl⟩
        by_cases hlu : t < r
        · obtain ⟨b, rfl, hb⟩ := ((HB.out.below HI.out.2).below HJ.out).2 (by omega)
          have d0 := hb t hlu
          have c0 := cell_later HJ.out HC0.out
          have ht0 : (0 : Int) ≤ (t : Int) := by omega
          have ht1 : (t : Int) < (r : Int) := by omega
          obtain ⟨y, hy⟩ : ∃ y, may t = y := ⟨_, rfl⟩
          rw [hy] at d0
          have HS : Hid (hasI may (t + 1) id = (hasI may t id || (y == id))) := Lib.hid (by rw [hasI_step, hy])
          obtain ⟨h, hh⟩ : ∃ x, hasI may t id = x := ⟨_, rfl⟩
          rw [hh] at HS
          simp only [hh]
          have k0 := fun (x' : WIn (Below wi.heap.size wi)) => cell_later x'.h c0
          have k1 := fun (x' : WIn (Below wi.heap.size wi)) => cell_later x'.h d0
          clear hb c0 d0 hy hh
          go_upto_region 8 with fail
          obtain ⟨v, hv⟩ : ∃ v, (y == id) = v := ⟨_, rfl⟩
          have HS2 : Hid (hasI may (t + 1) id = (h || v)) := Lib.hid (by rw [HS.out, hv])
          clear HS
          cases h
          · refine region_in (Below wi.heap.size wi) (by kernel_rfl) (by kernel_rfl) (Below.refl _ _).drew (fun inst => ?_)
            iterate 13 (go_big_quiet_step (fail))
            refine wpQuiet_nil ?_
            intro wd hbw
            clear k0 k1
            go_wp2_with fail
            all_goals exact ⟨⟨t + 1, by omega, by rw [HS2.out]; rfl, by go_num, Lib.hid (below_next HJ.out HJ.out.size hbw)⟩, by simp [intOf]; omega⟩
          · refine region_in (Below wi.heap.size wi) (by kernel_rfl) (by kernel_rfl) (Below.refl _ _).drew (fun inst => ?_)
            iterate 13 (go_big_quiet_step (fail))
            refine wpQuiet_nil ?_
            intro wd hbw
            clear k0 k1
            go_wp2_with fail
            all_goals exact ⟨⟨t + 1, by omega, by rw [HS2.out]; rfl, by go_num, Lib.hid (below_next HJ.out HJ.out.size hbw)⟩, by simp [intOf]; omega⟩
        · obtain rfl : t = r := by omega
          have HBw : Hid (Below w.heap.size w wi) := Lib.hid (below_next HI.out.2 HI.out.2.size HJ.out)
          have c0 := cell_later HJ.out HC0.out
          obtain ⟨hs, hhs⟩ : ∃ x, hasI may t id = x := ⟨_, rfl⟩
          simp only [hhs]
          clear HC0 HJ ht hlu
          have HF := Lib.hid HI.out.1
          clear HI
          go_upto_region 10 with (go_at_call 22; refine (H1.out id _ HBw.out).mono ?_; rintro e w1 ⟨A1, d1, rfl, hr1, hb1⟩)
          obtain ⟨t1, ht1⟩ : ∃ x, T1 id = x := ⟨_, rfl⟩
          obtain ⟨m1, hm1⟩ : ∃ x, l1 id = x := ⟨_, rfl⟩
          obtain ⟨g1, hg1⟩ : ∃ x, F1 id = x := ⟨_, rfl⟩
          obtain ⟨e1, he1⟩ : ∃ x, b1 id = x := ⟨_, rfl⟩
          rw [ht1, hm1, hg1, he1] at HE
          rw [he1] at HE0
          rw [hm1, hg1] at hr1
          simp only [ht1, hm1, he1]
          have hal1 := hb1.alloc hb1.size (.cells #[.int .i64 t1, .slice A1 m1 d1] 52)
          refine at_world (fun W => Hid (Below w.heap.size w W ∧ BkV w1.heap.size W t1 A1 m1 d1 ∧ RowC W A1 m1 g1) ∧ W.cell? (a.add k) = some (.int .i64 id)) ⟨Lib.hid ⟨below_next HBw.out HBw.out.size hal1, BkV.new _ _ _ _ _ _, hr1.below ((Below.refl _ _).alloc (Nat.le_refl _) _)⟩, cell_later hal1 c0⟩ ?_
          obtain ⟨x12, hx12⟩ : ∃ x, w1.heap.size = x := ⟨_, rfl⟩
          simp only [hx12]
          clear hal1 hx12 hr1 hb1 w1 ht1 hm1 hg1 he1 c0 HBw
          intro W1 ⟨K1, c0⟩
          go_upto_region 11 with (go_at_call 22; refine (H2.out id _ K1.out.1).mono ?_; rintro e w2 ⟨A2, d2, rfl, hr2, hb2⟩)
          obtain ⟨t2, ht2⟩ : ∃ x, T2 id = x := ⟨_, rfl⟩
          obtain ⟨m2, hm2⟩ : ∃ x, l2 id = x := ⟨_, rfl⟩
          obtain ⟨g2, hg2⟩ : ∃ x, F2 id = x := ⟨_, rfl⟩
          obtain ⟨e2, he2⟩ : ∃ x, b2 id = x := ⟨_, rfl⟩
          rw [ht2, hm2, hg2, he2] at HE
          rw [he2] at HE0
          rw [hm2, hg2] at hr2
          simp only [ht2, hm2, he2]
          have hal2 := hb2.alloc hb2.size (.cells #[.int .i64 t2, .slice A2 m2 d2] 52)
          refine at_world (fun W => Hid (Below w.heap.size w W ∧ RowC W A1 m1 g1 ∧ RowC W A2 m2 g2) ∧ (∀ o, W.cell? ⟨x12, o, none⟩ = [Value.int .i64 t1, Value.slice A1 m1 d1][o]?) ∧ (∀ o, W.cell? ⟨w2.heap.size, o, none⟩ = [Value.int .i64 t2, Value.slice A2 m2 d2][o]?) ∧ W.cell? (a.add k) = some (.int .i64 id)) ⟨Lib.hid ⟨below_next K1.out.1 K1.out.1.size hal2, K1.out.2.2.below hal2, hr2.below ((Below.refl _ _).alloc (Nat.le_refl _) _)⟩, (K1.out.2.1.below hal2).2, (BkV.new _ _ _ _ _ _).2, cell_later hal2 c0⟩ ?_
          obtain ⟨x14, hx14⟩ : ∃ x, w2.heap.size = x := ⟨_, rfl⟩
          simp only [hx14]
          clear hal2 hx14 hr2 hb2 w2 ht2 hm2 hg2 he2 K1 c0 W1
          intro W2 ⟨K2, k12, k14, c0⟩
          have HFn : Hid ((!hs && D id) = false → ∀ j, j < k + 1 → (!hasI may t (ids j) && D (ids j)) = false) := Lib.hid (fun h j hj => by
            by_cases e : j = k
            · subst e; rw [HID.out, hhs]; exact h
            · exact HF.out j (by omega))
          have HFd : Hid (hs = false → D id = true → chgM ids q may t D = id) := Lib.hid (fun h1 h2 => by
            have := chgM_at (may := may) (r := t) hlt (by rw [HID.out, hhs]; exact h1) (by rw [HID.out]; exact h2) HF.out
            rwa [HID.out] at this)
          clear HF HID hhs
          cases hs
          · cases e1
            · cases e2
              · have HR := Lib.hid (HFn.out (by rw [HE0.out rfl rfl]; rfl))
                go_wp2_with fail
                all_goals exact ⟨⟨k + 1, by omega, by go_num, Lib.hid ⟨HR.out, K2.out.1⟩⟩, by simp [intOf]; omega⟩
              · have HR := Lib.hid (HFd.out rfl (by rw [HE.out]; rfl))
                go_wp2_with fail
                go_ret
                exact ⟨by rw [HR.out]; rfl, K2.out.1⟩
            · cases e2
              · have HR := Lib.hid (HFd.out rfl (by rw [HE.out]; rfl))
                go_wp2_with fail
                go_ret
                exact ⟨by rw [HR.out]; rfl, K2.out.1⟩
              · have SB := Lib.hid (sameBlock_g t1 t2 A1 A2 m1 m2 d1 d2 g1 g2 W2 K2.out.2.1 K2.out.2.2)
                obtain ⟨v, hv⟩ : ∃ x, (decide (t1 = t2) && eqI g1 g2 m1 m2) = x := ⟨_, rfl⟩
                rw [hv] at SB
                have HE2 : Hid (D id = !v) := Lib.hid (by rw [HE.out]; unfold diffM; rw [← hv]; simp)
                clear hv HE
                cases v
                · have HR := Lib.hid (HFd.out rfl (by rw [HE2.out]; rfl))
                  go_wp2_with (go_at_call 23; refine (SB.out).mono ?_; rintro e w3 ⟨rfl, hb3⟩; have H3 := Lib.hid hb3; replace c0 := cell_later hb3 c0; clear hb3)
                  go_ret
                  exact ⟨by rw [HR.out]; rfl, below_next K2.out.1 K2.out.1.size H3.out⟩
                · have HR := Lib.hid (HFn.out (by rw [HE2.out]; rfl))
                  go_wp2_with (go_at_call 23; refine (SB.out).mono ?_; rintro e w3 ⟨rfl, hb3⟩; have H3 := Lib.hid hb3; replace c0 := cell_later hb3 c0; clear hb3)
                  all_goals exact ⟨⟨k + 1, by omega, by go_num, Lib.hid ⟨HR.out, below_next K2.out.1 K2.out.1.size H3.out⟩⟩, by simp [intOf]; omega⟩
          · have HR := Lib.hid (HFn.out rfl)
            go_wp2_with fail
            all_goals exact ⟨⟨k + 1, by omega, by go_num, Lib.hid ⟨HR.out, K2.out.1⟩⟩, by simp [intOf]; omega⟩
    · obtain rfl : k = q := by omega
      have HR := Lib.hid (chgM_none HI.out.1)
      go_wp2_with fail
      go_ret
      exact ⟨by rw [HR.out]; rfl, HI.out.2⟩
theorem MS.rblk {w : World} {base p n : Nat} {L : Value} {ts : Nat → Int} {ad ln cp : Nat → Nat} {f : Nat → Nat → Int} (hm : MS w base p L n ts ad ln cp f) (id : Int) (W : World) (hW : Below w.heap.size w W) :
    Calls Try.prog 22 #[.pointer (some ⟨p, 0, none⟩), .int .i64 id] W (BlkPost (tB n ts id) (lB n ln id) (fB n f id) (bB n id) W) := by
  have hm' := hm.below hW
  by_cases h : 0 ≤ id ∧ id < n
  · have hb : bB n id = true := decide_eq_true h
    obtain ⟨i, rfl⟩ := Int.eq_ofNat_of_zero_le h.1
    have hi : i < n := by omega
    have ht : tB n ts (i : Int) = ts i := by unfold tB; rw [if_pos hb]; simp
    have hl : lB n ln (i : Int) = ln i := by unfold lB; rw [if_pos hb]; simp
    have hf : fB n f (i : Int) = f i := by unfold fB; rw [if_pos hb]; simp
    rw [ht, hl, hf, hb]
    refine (rblock_s base p n L ts ad ln cp f i W hm' hi).mono ?_
    rintro e w' ⟨g, c, rfl, hr⟩
    exact ⟨_, c, rfl, ⟨by have := (hm'.hA i hi).2.2.2.2.2.1; omega, fun _ => ⟨_, rfl, fun j hj => by rw [m_plain]; exact hr.2.2.2.1 j hj⟩⟩, hr.2.2.2.2.2⟩
  · have hb : bB n id = false := decide_eq_false h
    have hnb : ¬ bB n id = true := by rw [hb]; simp
    have ht : tB n ts id = 0 := by unfold tB; rw [if_neg hnb]
    have hl : lB n ln id = 0 := by unfold lB; rw [if_neg hnb]
    have hf : fB n f id = fun _ => 0 := by unfold fB; rw [if_neg hnb]
    rw [ht, hl, hf, hb]
    refine (rblock_out base p n L ts ad ln cp f id W hm' h).mono ?_
    rintro e w' ⟨rfl, hb'⟩
    exact ⟨none, 0, rfl, ⟨by omega, fun h => absurd h (by omega)⟩, hb'⟩
theorem rchanged_s (base1 base2 p1 p2 n1 n2 : Nat) (L1 L2 : Value) (ts1 ts2 : Nat → Int) (ad1 ad2 ln1 ln2 cp1 cp2 : Nat → Nat) (f1 f2 : Nat → Nat → Int) (A B : Option Addr) (q r ca cb : Nat) (ids may : Nat → Int) (w : World) (hA : RowC w A q ids) (hB : RowC w B r may)
    (hm1 : MS w base1 p1 L1 n1 ts1 ad1 ln1 cp1 f1) (hm2 : MS w base2 p2 L2 n2 ts2 ad2 ln2 cp2 f2) :
    Calls Try.prog 10 #[.pointer (some ⟨p1, 0, none⟩), .pointer (some ⟨p2, 0, none⟩), .slice A q ca, .slice B r cb] w fun e w' => e = .returned (.int .i64 (chgM ids q may r (diffB n1 n2 ts1 ts2 ln1 ln2 f1 f2))) ∧ Below w.heap.size w w' :=
  rchanged_c p1 p2 A B q r ca cb ids may (tB n1 ts1) (tB n2 ts2) (lB n1 ln1) (lB n2 ln2) (fB n1 f1) (fB n2 f2) (bB n1) (bB n2) w hA hB (fun id e1 e2 => by
    unfold diffM tB lB fB
    rw [e1, e2]; simp [eqI]) (fun id W hW => hm1.rblk id W hW) (fun id W hW => hm2.rblk id W hW)
end Go.Proofs.Ytkgdogdallojlaa.C
