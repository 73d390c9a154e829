/- memory and the reference's memory in any state: Set: walks. -/
import Derived.Test.YtkgdogdallojlaaMem10
namespace Go.Proofs.Ytkgdogdallojlaa.C
open Go.RowKit
set_option linter.unusedSimpArgs false
set_option linter.unusedVariables false
/-- Only what the memory holds may have changed between: the rest as it was. -/
theorem MS.keep {w w' : World} {base p n : Nat} {L : Value} {ts : Nat → Int} {ad ln cp : Nat → Nat} {f : Nat → Nat → Int} (hm : MS w base p L n ts ad ln cp f) (hs : w.heap.size ≤ w'.heap.size) (hp : w'.heap[p]? = w.heap[p]?) (hl : ∀ b, L.ownBlock = some b → w'.heap[b]? = w.heap[b]?) (ha : ∀ i, i < n → w'.heap[ad i]? = w.heap[ad i]?) : MS w' base p L n ts ad ln cp f :=
  ⟨⟨hm.hp.1, Nat.lt_of_lt_of_le hm.hp.2 hs⟩, (m_kept (p := ⟨p, 0, none⟩) hp).trans hm.cell, (m_frz (p := ⟨p, 0, none⟩) hp).trans hm.frz, hm.own.keep hs hl, hm.hL, fun i hi => ⟨(hm.hA i hi).1, Nat.lt_of_lt_of_le (hm.hA i hi).2.1 hs, (hm.hA i hi).2.2⟩, hm.inj, fun i j hi hj => (m_kept (p := ⟨ad i, j, none⟩) (ha i hi)).trans (hm.inner i j hi hj), fun i j hi hj => (m_frz (p := ⟨ad i, j, none⟩) (ha i hi)).trans (hm.ifrz i j hi hj)⟩
theorem MS.below {w w' : World} {base p n : Nat} {L : Value} {ts : Nat → Int} {ad ln cp : Nat → Nat} {f : Nat → Nat → Int} (hm : MS w base p L n ts ad ln cp f) (hb : Below w.heap.size w w') : MS w' base p L n ts ad ln cp f :=
  hm.keep hb.size (hb.block p hm.hp.2) (fun b e => hb.block b (hm.own.blk b e).2) (fun i hi => hb.block _ (hm.hA i hi).2.1)
theorem MS.set {w : World} {base p n : Nat} {L : Value} {ts : Nat → Int} {ad ln cp : Nat → Nat} {f : Nat → Nat → Int} (hm : MS w base p L n ts ad ln cp f) {i j : Nat} (hi : i < n) (hj : j < ln i) (v : Int) :
    MS (w.setCell ⟨ad i, j, none⟩ (.int .i64 v)) base p L n ts ad ln cp (setF f i j v) := by
  have hs : (w.setCell ⟨ad i, j, none⟩ (.int .i64 v)).heap.size = w.heap.size := by simp
  have hA := hm.hA i hi
  have k := fun b (hb : b ≠ ad i) => Below.heap_setCell w ⟨ad i, j, none⟩ (.int .i64 v) b hb
  refine ⟨⟨hm.hp.1, by rw [hs]; exact hm.hp.2⟩, (m_kept (p := ⟨p, 0, none⟩) (k p (fun e => hA.2.2.1 e.symm))).trans hm.cell, (m_frz (p := ⟨p, 0, none⟩) (k p (fun e => hA.2.2.1 e.symm))).trans hm.frz, hm.own.keep (by omega) (fun b e => k b (fun q => hA.2.2.2.1 (by rw [e, q]))), hm.hL, fun a ha => by rw [hs]; exact hm.hA a ha, hm.inj, fun a b ha hb => ?_, fun a b ha hb => ?_⟩
  · unfold setF
    by_cases e : a = i ∧ b = j
    · rw [if_pos e]
      obtain ⟨rfl, rfl⟩ := e
      exact World.cell?_setCell_same _ _ _ (hm.inner a b ha hb)
    · rw [if_neg e, World.cell?_setCell_other _ _ _ _ (fun q => e (by injection q with q1 q2; exact ⟨hm.inj a i ha hi q1.symm, q2.symm⟩))]
      exact hm.inner a b ha hb
  · simpa [go_sem] using hm.ifrz a b ha hb
def setM (n : Nat) (ln : Nat → Nat) (ts : Nat → Int) (f : Nat → Nat → Int) (id at' v : Int) : Nat → Nat → Int := if hasM n ln id at' = true then setF f id.toNat at'.toNat (wrapT (ts id.toNat) v) else f
def SetPost (w : World) (base p n : Nat) (L : Value) (ts : Nat → Int) (ad ln cp : Nat → Nat) (f : Nat → Nat → Int) (id at' v : Int) (e : Ending) (w' : World) : Prop :=
  e = .returned (.bool (hasM n ln id at')) ∧ Below base w w' ∧ MS w' base p L n ts ad ln cp (setM n ln ts f id at' v) ∧ ∀ b, b < w.heap.size → (∀ i, i < n → ad i ≠ b) → w'.heap[b]? = w.heap[b]?
set_option maxHeartbeats 1600000 in
theorem set_s (base p n : Nat) (L : Value) (ts : Nat → Int) (ad ln cp : Nat → Nat) (f : Nat → Nat → Int) (id at' v : Int) (w : World) (hm : MS w base p L n ts ad ln cp f) (hb0 : base ≤ w.heap.size) :
    Calls Try.prog 14 #[.pointer (some ⟨p, 0, none⟩), .int .i64 id, .int .i64 at', .int .i64 v] w (SetPost w base p n L ts ad ln cp f id at' v) := by
  have HA := has_s base p n L ts ad ln cp f id at' w hm
  by_cases h : hasM n ln id at' = true
  · have e0 : setM n ln ts f id at' v = setF f id.toNat at'.toNat (wrapT (ts id.toNat) v) := if_pos h
    unfold SetPost
    rw [e0]
    rw [h] at HA ⊢
    obtain ⟨i, j, rfl, rfl, hi, hj⟩ := hasM_nat h
    simp only [Int.toNat_natCast]
    clear e0 h
    have HA := Lib.hid HA
    have HM := Lib.hid hm
    have HAi := Lib.hid (hm.hA i hi)
    obtain ⟨g, cap, rfl, hv, _⟩ := hm.view (by omega)
    have c0 := hv.cell
    obtain ⟨c1, c2⟩ := hv.rows i hi
    clear hv hm
    have hk0 : (0 : Int) ≤ (i : Int) := by omega
    have hk1 : (i : Int) < (n : Int) := by omega
    have hk2 : (0 : Int) ≤ (j : Int) := by omega
    have hk3 : (j : Int) < (ln i : Int) := by omega
    go_enter Try.func14, Try.ntmps14
    go_upto_region 3 with ((go_at_call 26; refine (HA.out).mono ?_; rintro e w' ⟨rfl, rfl⟩))
    obtain ⟨wo, rfl⟩ : ∃ wo : World, wo = w := ⟨_, rfl⟩
    have d0 := fun (x' : WIn (Below wo.heap.size wo)) => cell_later x'.h c0
    have d1 := fun (x' : WIn (Below wo.heap.size wo)) => cell_later x'.h c1
    have d2 := fun (x' : WIn (Below wo.heap.size wo)) => cell_later x'.h c2
    clear c0 c1 c2
    refine region_tail 20 (Below wo.heap.size wo) (by kernel_rfl) (by kernel_rfl) (Below.refl _ _).drew (fun inst => ?_)
    simp only [List.take_succ_cons, List.take_zero, List.drop_succ_cons, List.drop_zero]
    iterate 20 (go_big_quiet_step ((go_at_call 27; exact call_same _ (wrap_c (ts i) v _))))
    refine wpQuiet_nil ?_
    intro wd hbd
    have HD := Lib.hid (HM.out.below hbd)
    have k4 : wd.cell? ⟨ad i, j, none⟩ = some (.int .i64 (f i j)) := HD.out.inner i j hi hj
    have f4 : wd.frozen? ⟨ad i, j, none⟩ = false := HD.out.ifrz i j hi hj
    have HR : Hid (Below base wo (wd.setCell ⟨ad i, j, none⟩ (.int .i64 (wrapT (ts i) v))) ∧ MS (wd.setCell ⟨ad i, j, none⟩ (.int .i64 (wrapT (ts i) v))) base p (.slice (some ⟨g, 0, none⟩) n cap) n ts ad ln cp (setF f i j (wrapT (ts i) v)) ∧ ∀ b, b < wo.heap.size → (∀ i, i < n → ad i ≠ b) → (wd.setCell ⟨ad i, j, none⟩ (.int .i64 (wrapT (ts i) v))).heap[b]? = wo.heap[b]?) := Lib.hid ⟨(hbd.mono hb0).setCell (p := ⟨ad i, j, none⟩) HAi.out.1 _, HD.out.set hi hj _, fun b hb hne => (Below.heap_setCell wd ⟨ad i, j, none⟩ _ b (fun e => hne i hi e.symm)).trans (hbd.block b hb)⟩
    clear d0 d1 d2
    go_wp2_with fail
    go_ret
    exact ⟨rfl, HR.out⟩
  · have e0 : setM n ln ts f id at' v = f := if_neg h
    unfold SetPost
    rw [e0]
    rw [Bool.eq_false_iff.2 h] at HA ⊢
    have HA := Lib.hid HA
    have HM := Lib.hid hm
    clear h e0 hm
    go_enter Try.func14, Try.ntmps14
    go_wp2_with ((go_at_call 26; refine (HA.out).mono ?_; rintro e w' ⟨rfl, rfl⟩))
    go_ret
    exact ⟨rfl, Below.refl _ _, HM.out, fun _ _ _ => rfl⟩
set_option maxHeartbeats 1600000 in
theorem rset_s (base p n : Nat) (L : Value) (ts : Nat → Int) (ad ln cp : Nat → Nat) (f : Nat → Nat → Int) (id at' v : Int) (w : World) (hm : MS w base p L n ts ad ln cp f) (hb0 : base ≤ w.heap.size) :
    Calls Try.prog 18 #[.pointer (some ⟨p, 0, none⟩), .int .i64 id, .int .i64 at', .int .i64 v] w (SetPost w base p n L ts ad ln cp f id at' v) := by
  have HA := rget_s base p n L ts ad ln cp f id at' w hm
  by_cases h : hasM n ln id at' = true
  · have e0 : setM n ln ts f id at' v = setF f id.toNat at'.toNat (wrapT (ts id.toNat) v) := if_pos h
    have e1 : getM n ln f id at' = .tuple #[.int .i64 (f id.toNat at'.toNat), .bool true] := if_pos h
    unfold SetPost
    rw [e0]
    rw [e1] at HA
    rw [h]
    obtain ⟨i, j, rfl, rfl, hi, hj⟩ := hasM_nat h
    simp only [Int.toNat_natCast] at HA ⊢
    clear e0 e1 h
    have HA := Lib.hid HA
    have HM := Lib.hid hm
    have HAi := Lib.hid (hm.hA i hi)
    obtain ⟨g, cap, rfl, hv, _⟩ := hm.view (by omega)
    have c0 := hv.cell
    obtain ⟨c1, c2⟩ := hv.rows i hi
    clear hv hm
    have hk0 : (0 : Int) ≤ (i : Int) := by omega
    have hk1 : (i : Int) < (n : Int) := by omega
    have hk2 : (0 : Int) ≤ (j : Int) := by omega
    have hk3 : (j : Int) < (ln i : Int) := by omega
    go_enter Try.func18, Try.ntmps18
    go_upto_region 3 with ((go_at_call 29; refine (HA.out).mono ?_; rintro e w' ⟨rfl, rfl⟩))
    obtain ⟨wo, rfl⟩ : ∃ wo : World, wo = w := ⟨_, rfl⟩
    have d0 := fun (x' : WIn (Below wo.heap.size wo)) => cell_later x'.h c0
    have d1 := fun (x' : WIn (Below wo.heap.size wo)) => cell_later x'.h c1
    have d2 := fun (x' : WIn (Below wo.heap.size wo)) => cell_later x'.h c2
    clear c0 c1 c2
    refine region_tail 20 (Below wo.heap.size wo) (by kernel_rfl) (by kernel_rfl) (Below.refl _ _).drew (fun inst => ?_)
    simp only [List.take_succ_cons, List.take_zero, List.drop_succ_cons, List.drop_zero]
    iterate 20 (go_big_quiet_step ((go_at_call 30; exact call_same _ (r_wrap_c (ts i) v _))))
    refine wpQuiet_nil ?_
    intro wd hbd
    have HD := Lib.hid (HM.out.below hbd)
    have k4 : wd.cell? ⟨ad i, j, none⟩ = some (.int .i64 (f i j)) := HD.out.inner i j hi hj
    have f4 : wd.frozen? ⟨ad i, j, none⟩ = false := HD.out.ifrz i j hi hj
    have HR : Hid (Below base wo (wd.setCell ⟨ad i, j, none⟩ (.int .i64 (wrapT (ts i) v))) ∧ MS (wd.setCell ⟨ad i, j, none⟩ (.int .i64 (wrapT (ts i) v))) base p (.slice (some ⟨g, 0, none⟩) n cap) n ts ad ln cp (setF f i j (wrapT (ts i) v)) ∧ ∀ b, b < wo.heap.size → (∀ i, i < n → ad i ≠ b) → (wd.setCell ⟨ad i, j, none⟩ (.int .i64 (wrapT (ts i) v))).heap[b]? = wo.heap[b]?) := Lib.hid ⟨(hbd.mono hb0).setCell (p := ⟨ad i, j, none⟩) HAi.out.1 _, HD.out.set hi hj _, fun b hb hne => (Below.heap_setCell wd ⟨ad i, j, none⟩ _ b (fun e => hne i hi e.symm)).trans (hbd.block b hb)⟩
    clear d0 d1 d2
    go_wp2_with fail
    go_ret
    exact ⟨rfl, HR.out⟩
  · have e0 : setM n ln ts f id at' v = f := if_neg h
    have e1 : getM n ln f id at' = .tuple #[.int .i64 0, .bool false] := if_neg h
    unfold SetPost
    rw [e0]
    rw [e1] at HA
    rw [Bool.eq_false_iff.2 h]
    have HA := Lib.hid HA
    have HM := Lib.hid hm
    clear h e0 e1 hm
    go_enter Try.func18, Try.ntmps18
    go_wp2_with ((go_at_call 29; refine (HA.out).mono ?_; rintro e w' ⟨rfl, rfl⟩))
    go_ret
    exact ⟨rfl, Below.refl _ _, HM.out, fun _ _ _ => rfl⟩
end Go.Proofs.Ytkgdogdallojlaa.C
