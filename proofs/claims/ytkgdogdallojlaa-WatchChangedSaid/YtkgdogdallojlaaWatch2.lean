/- watch.Changed, l9.awake: walks. -/
import Derived.Test.YtkgdogdallojlaaWatch
import Derived.WalkMore
import Derived.Outline
namespace Go.Proofs.Ytkgdogdallojlaa.C
open Go.RowKit
set_option linter.unusedSimpArgs false
set_option linter.unusedVariables false
/-- A box of a block: its type, its values. -/
def BkV (b : Nat) (wr : World) (t : Int) (A : Option Addr) (l c : Nat) : Prop := b < wr.heap.size ∧ (∀ o, wr.cell? ⟨b, o, none⟩ = [Value.int .i64 t, Value.slice A l c][o]?)
theorem BkV.below {b : Nat} {wr w' : World} {t : Int} {A : Option Addr} {l c : Nat} (h : BkV b wr t A l c) (hb : Below wr.heap.size wr w') : BkV b w' t A l c :=
  ⟨Nat.lt_of_lt_of_le h.1 hb.size, fun o => (hb.cell (p := ⟨b, o, none⟩) h.1).trans (h.2 o)⟩
theorem BkV.new (w : World) (T : TypeId) (t : Int) (A : Option Addr) (l c : Nat) : BkV w.heap.size (w.alloc (.cells #[.int .i64 t, .slice A l c] T)) t A l c := ⟨by simp, by intro o; simp [go_sem]⟩
/-- Two blocks differ. -/
def diffM (b1 b2 : Bool) (t1 t2 : Int) (f1 f2 : Nat → Int) (l1 l2 : Nat) : Bool := (b1 != b2) || !decide (t1 = t2) || !eqI f1 f2 l1 l2
set_option maxRecDepth 100000 in
set_option maxHeartbeats 6400000 in
theorem changed_c (p1 p2 : Nat) (A B : Option Addr) (q r ca cb : Nat) (ids may : Nat → Int) (T1 T2 : Int → Int) (l1 l2 : Int → Nat) (F1 F2 : Int → Nat → Int) (b1 b2 : Int → Bool) (w : World) (hA : RowC w A q ids) (hB : RowC w B r may)
    (h1 : ∀ id W, Below w.heap.size w W → Calls Try.prog 19 #[.pointer (some ⟨p1, 0, none⟩), .int .i64 id] W (BlkPost (T1 id) (l1 id) (F1 id) (b1 id) W))
    (h2 : ∀ id W, Below w.heap.size w W → Calls Try.prog 19 #[.pointer (some ⟨p2, 0, none⟩), .int .i64 id] W (BlkPost (T2 id) (l2 id) (F2 id) (b2 id) W)) :
    Calls Try.prog 9 #[.pointer (some ⟨p1, 0, none⟩), .pointer (some ⟨p2, 0, none⟩), .slice A q ca, .slice B r cb] w fun e w' => e = .returned (.int .i64 (chgM ids q may r (fun id => diffM (b1 id) (b2 id) (T1 id) (T2 id) (F1 id) (F2 id) (l1 id) (l2 id)))) ∧ Below w.heap.size w w' := by
  obtain ⟨D, hD⟩ : ∃ D : Int → Bool, (fun id => diffM (b1 id) (b2 id) (T1 id) (T2 id) (F1 id) (F2 id) (l1 id) (l2 id)) = D := ⟨_, rfl⟩
  rw [hD]
  have HD := Lib.hid hD
  have hmax := hA.1
  have HA := Lib.hid hA
  have HB := Lib.hid hB
  have H1 := Lib.hid h1
  have H2 := Lib.hid h2
  clear hA hB h1 h2 hD
  go_enter Try.func9, Try.ntmps9
  go_wp2_with fail
  go_loopw [17] (fun v wr => ∃ k : Nat, k ≤ q ∧ v = .int .i64 k ∧ Hid ((∀ j, j < k → (!hasI may r (ids j) && D (ids j)) = false) ∧ Below w.heap.size w wr)) (fun v _ => q - (intOf v).toNat)
  case atStart => exact ⟨0, by omega, rfl, Lib.hid ⟨fun j hj => absurd hj (by omega), Below.refl _ _⟩⟩
  case round =>
    obtain ⟨k, hk, rfl, HI⟩ := hrel
    by_cases hlt : k < q
    · obtain ⟨a, rfl, ha⟩ := (HA.out.below HI.out.2).2 (by omega)
      have c0 := ha k hlt
      have hk0 : (0 : Int) ≤ (k : Int) := by omega
      have hk1 : (k : Int) < (q : Int) := by omega
      clear ha
      obtain ⟨id, hid⟩ : ∃ x, ids k = x := ⟨_, rfl⟩
      rw [hid] at c0
      have HE : Hid (D id = diffM (b1 id) (b2 id) (T1 id) (T2 id) (F1 id) (F2 id) (l1 id) (l2 id)) := Lib.hid (by rw [← HD.out])
      have HID := Lib.hid hid
      clear hid
      obtain ⟨wo, rfl⟩ : ∃ wo : World, wo = wr := ⟨_, rfl⟩
      go_upto_region 5 with (go_at_call 19; refine (H1.out id _ HI.out.2).mono ?_; rintro e w1 ⟨A1, d1, rfl, hr1, hb1⟩)
      obtain ⟨t1, ht1⟩ : ∃ x, T1 id = x := ⟨_, rfl⟩
      obtain ⟨m1, hm1⟩ : ∃ x, l1 id = x := ⟨_, rfl⟩
      obtain ⟨g1, hg1⟩ : ∃ x, F1 id = x := ⟨_, rfl⟩
      obtain ⟨e1, he1⟩ : ∃ x, b1 id = x := ⟨_, rfl⟩
      rw [ht1, hm1, hg1, he1] at HE
      rw [hm1, hg1] at hr1
      simp only [ht1, hm1, he1]
      have hal1 := hb1.alloc hb1.size (.cells #[.int .i64 t1, .slice A1 m1 d1] 52)
      refine at_world (fun W => Hid (Below w.heap.size w W ∧ BkV w1.heap.size W t1 A1 m1 d1 ∧ RowC W A1 m1 g1)) (Lib.hid ⟨below_next HI.out.2 HI.out.2.size hal1, BkV.new _ _ _ _ _ _, hr1.below ((Below.refl _ _).alloc (Nat.le_refl _) _)⟩) ?_
      obtain ⟨x11, hx11⟩ : ∃ x, w1.heap.size = x := ⟨_, rfl⟩
      simp only [hx11]
      have HF := Lib.hid HI.out.1
      clear hal1 hx11 hr1 hb1 w1 ht1 hm1 hg1 he1 c0 HI
      intro W1 K1
      go_upto_region 6 with (go_at_call 19; refine (H2.out id _ K1.out.1).mono ?_; rintro e w2 ⟨A2, d2, rfl, hr2, hb2⟩)
      obtain ⟨t2, ht2⟩ : ∃ x, T2 id = x := ⟨_, rfl⟩
      obtain ⟨m2, hm2⟩ : ∃ x, l2 id = x := ⟨_, rfl⟩
      obtain ⟨g2, hg2⟩ : ∃ x, F2 id = x := ⟨_, rfl⟩
      obtain ⟨e2, he2⟩ : ∃ x, b2 id = x := ⟨_, rfl⟩
      rw [ht2, hm2, hg2, he2] at HE
      rw [hm2, hg2] at hr2
      simp only [ht2, hm2, he2]
      have hal2 := hb2.alloc hb2.size (.cells #[.int .i64 t2, .slice A2 m2 d2] 52)
      refine at_world (fun W => Hid (Below w.heap.size w W ∧ RowC W A1 m1 g1 ∧ RowC W A2 m2 g2) ∧ (∀ o, W.cell? ⟨x11, o, none⟩ = [Value.int .i64 t1, Value.slice A1 m1 d1][o]?) ∧ (∀ o, W.cell? ⟨w2.heap.size, o, none⟩ = [Value.int .i64 t2, Value.slice A2 m2 d2][o]?)) ⟨Lib.hid ⟨below_next K1.out.1 K1.out.1.size hal2, K1.out.2.2.below hal2, hr2.below ((Below.refl _ _).alloc (Nat.le_refl _) _)⟩, (K1.out.2.1.below hal2).2, (BkV.new _ _ _ _ _ _).2⟩ ?_
      obtain ⟨x13, hx13⟩ : ∃ x, w2.heap.size = x := ⟨_, rfl⟩
      simp only [hx13]
      clear hal2 hx13 hr2 hb2 w2 ht2 hm2 hg2 he2 K1 W1
      intro W2 ⟨K2, k11, k13⟩
      have HFn : Hid ((!hasI may r id && D id) = false → ∀ j, j < k + 1 → (!hasI may r (ids j) && D (ids j)) = false) := Lib.hid (fun h j hj => by
        by_cases e : j = k
        · subst e; rw [HID.out]; exact h
        · exact HF.out j (by omega))
      have HFd : Hid (hasI may r id = false → D id = true → chgM ids q may r D = id) := Lib.hid (fun h1 h2 => by
        have := chgM_at (may := may) (r := r) hlt (by rw [HID.out]; exact h1) (by rw [HID.out]; exact h2) HF.out
        rwa [HID.out] at this)
      clear HF HID
      have CN := contains_c B r cb may id W2 (HB.out.below K2.out.1)
      obtain ⟨hs, hhs⟩ : ∃ x, hasI may r id = x := ⟨_, rfl⟩
      rw [hhs] at CN HFn HFd
      clear hhs
      have HC := Lib.hid CN
      clear CN
      cases hs
      · -- may not
        by_cases eb : e1 = e2
        · subst eb
          have gb : (e1 != e1) = false := by simp
          by_cases et : t1 = t2
          · subst et
            have gt : (t1 != t1) = false := by simp
            have EQ := Lib.hid (equal_c A1 A2 m1 m2 d1 d2 g1 g2 W2 K2.out.2.1 K2.out.2.2)
            obtain ⟨v, hv⟩ : ∃ x, eqI g1 g2 m1 m2 = x := ⟨_, rfl⟩
            rw [hv] at EQ
            have HE2 : Hid (D id = !v) := Lib.hid (by rw [HE.out]; unfold diffM; rw [hv]; simp)
            clear hv HE
            cases v
            · have HR := Lib.hid (HFd.out rfl (by rw [HE2.out]; rfl))
              go_wp2_with (first | (go_at_call 20; refine (HC.out).mono ?_; rintro e w' ⟨rfl, rfl⟩) | (go_at_call 21; refine (EQ.out).mono ?_; rintro e w3 ⟨rfl, hb3⟩; have H3 := Lib.hid hb3; clear hb3))
              go_ret
              exact ⟨by rw [HR.out]; rfl, below_next K2.out.1 K2.out.1.size H3.out⟩
            · have HR := Lib.hid (HFn.out (by rw [HE2.out]; rfl))
              go_wp2_with (first | (go_at_call 20; refine (HC.out).mono ?_; rintro e w' ⟨rfl, rfl⟩) | (go_at_call 21; refine (EQ.out).mono ?_; rintro e w3 ⟨rfl, hb3⟩; have H3 := Lib.hid hb3; clear hb3))
              all_goals exact ⟨⟨k + 1, by omega, by go_num, Lib.hid ⟨HR.out, below_next K2.out.1 K2.out.1.size H3.out⟩⟩, by simp [intOf]; omega⟩
          · have HE2 : Hid (D id = true) := Lib.hid (by rw [HE.out]; unfold diffM; rw [decide_eq_false et]; simp)
            have gt : (t1 != t2) = true := by rw [bne_iff_ne]; exact et
            have HR := Lib.hid (HFd.out rfl HE2.out)
            clear HE et
            go_wp2_with (go_at_call 20; refine (HC.out).mono ?_; rintro e w' ⟨rfl, rfl⟩)
            go_ret
            exact ⟨by rw [HR.out]; rfl, K2.out.1⟩
        · have gb : (e1 != e2) = true := by rw [bne_iff_ne]; exact eb
          have HE2 : Hid (D id = true) := Lib.hid (by rw [HE.out]; unfold diffM; rw [gb]; simp)
          have HR := Lib.hid (HFd.out rfl HE2.out)
          clear HE gb
          cases e1 <;> cases e2 <;> (first | exact absurd rfl eb | skip)
          all_goals clear eb
          all_goals (go_wp2_with (go_at_call 20; refine (HC.out).mono ?_; rintro e w' ⟨rfl, rfl⟩))
          all_goals go_ret
          all_goals exact ⟨by rw [HR.out]; rfl, K2.out.1⟩
      · have HR := Lib.hid (HFn.out rfl)
        go_wp2_with (go_at_call 20; refine (HC.out).mono ?_; rintro e w' ⟨rfl, rfl⟩)
        all_goals exact ⟨⟨k + 1, by omega, by go_num, Lib.hid ⟨HR.out, K2.out.1⟩⟩, by simp [intOf]; omega⟩
    · obtain rfl : k = q := by omega
      have HR := Lib.hid (chgM_none HI.out.1)
      go_wp2_with fail
      go_ret
      exact ⟨by rw [HR.out]; rfl, HI.out.2⟩
theorem clauses_nil (k : Int) (w : World) : Calls Try.prog 15 #[.slice none 0 0, .int .i64 k, .agg #[.pointer none, .slice none 0 0, .pointer none, .slice none 0 0, .int .i64 0, .int .i64 0]] w fun e w' => e = .returned (.tuple #[.slice none 0 0, .bool true]) ∧ Below w.heap.size w w' := by
  go_enter Try.func15, Try.ntmps15
  go_wp2_with fail
  go_step3
  go_wp2_with fail
  go_step3
  go_wp2_with fail
  go_loopw [8, 9, 18] (fun o h v wr => o = .slice none 0 0 ∧ h = .bool true ∧ v = .int .i64 0 ∧ Hid (Below w.heap.size w wr)) (fun _ _ v _ => 0)
  case atStart => exact ⟨rfl, rfl, rfl, Lib.hid (by repeat' (first | exact Below.refl _ _ | (refine Below.alloc ?_ ?_ _) | (refine Below.setCell ?_ ?_ _) | (refine Below.drew ?_) | (refine below_next ?_ ?_ (by assumption)) | omega | (simp; done) | (simp; omega)))⟩
  case round =>
    obtain ⟨rfl, rfl, rfl, HI⟩ := hrel
    go_wp2_with fail
    (try simp only [Exit.noGoto_ret])
    (try go_wp2_with fail)
    go_ret2
    exact ⟨rfl, HI.out⟩
theorem awake9_c (w : World) : Calls Try.prog 5 #[] w fun e w' => e = .returned (.bool true) ∧ Below w.heap.size w w' := by
  go_enter Try.func5, Try.ntmps5
  go_wp2_with (go_at_call 15; refine (clauses_nil 3 _).mono ?_; rintro e w' ⟨rfl, hb⟩; have HB := Lib.hid hb; clear hb)
  go_ret
  exact ⟨rfl, HB.out⟩
end Go.Proofs.Ytkgdogdallojlaa.C
