/- memory: has, Get, Set of places that are there: walks. -/
import Derived.Test.YtkgdogdallojlaaMem2
namespace Go.Proofs.Ytkgdogdallojlaa.C
open Go.RowKit
set_option linter.unusedSimpArgs false
set_option linter.unusedVariables false
theorem MR.row {w : World} {base p n : Nat} {L : Value} {ts : Nat → Int} {ad ln cp : Nat → Nat} {f : Nat → Nat → Int} (hm : MR w base p L n ts ad ln cp f) (hn : 1 ≤ n) :
    ∃ g cap, L = .slice (some ⟨g, 0, none⟩) n cap ∧ n ≤ cap ∧ base ≤ g ∧ g < w.heap.size ∧ g ≠ p ∧ (∀ i, i < n → ad i ≠ g) ∧ (∀ i, i < n → w.cell? ⟨g, i * 2, none⟩ = some (.int .i64 (ts i)) ∧ w.cell? ⟨g, i * 2 + 1, none⟩ = some (.slice (some ⟨ad i, 0, none⟩) (ln i) (cp i))) := by
  have hh := hm.own
  obtain ⟨g, cap, hL, hb, hg⟩ := hh.form (by omega)
  have hcap : n ≤ cap := by
    rcases hh.2 with ⟨h1, h0⟩ | ⟨g', cap', cur, h1, _, _, h2, _⟩
    · omega
    · rw [hL] at h1; simp at h1; omega
  refine ⟨g, cap, hL, hcap, hb, hg, fun e => hm.hL (by rw [hL, e]; rfl), fun i hi e => (hm.hA i hi).2.2.2.1 (by rw [hL, e]; rfl), fun i hi => ?_⟩
  obtain ⟨h1, h2⟩ := xsM_at ts ad ln cp n i hi
  have k1 := hh.cells (g := g) (by rw [hL]; rfl) (i * 2) _ h1
  have k2 := hh.cells (g := g) (by rw [hL]; rfl) (i * 2 + 1) _ h2
  rw [m_plain] at k1 k2
  exact ⟨k1, k2⟩
set_option maxHeartbeats 1600000 in
theorem has_in (base p n : Nat) (L : Value) (ts : Nat → Int) (ad ln cp : Nat → Nat) (f : Nat → Nat → Int) (i j : Nat) (w : World) (hm : MR w base p L n ts ad ln cp f) (hi : i < n) (hj : j < ln i) :
    Calls Try.prog 26 #[.pointer (some ⟨p, 0, none⟩), .int .i64 i, .int .i64 j] w fun e w' => e = .returned (.bool true) ∧ w = w' := by
  obtain ⟨g, cap, rfl, hcap, _, _, _, _, hc⟩ := hm.row (by omega)
  have c0 := hm.cell
  obtain ⟨c1, c2⟩ := hc i hi
  clear hc hm hcap
  have g1 : decide (i < n) = true := decide_eq_true hi
  have g2 : decide (j < ln i) = true := decide_eq_true hj
  have hk0 : (0 : Int) ≤ (i : Int) := by omega
  have hk1 : (i : Int) < (n : Int) := by omega
  go_enter Try.func26, Try.ntmps26
  go_wp2_with fail
  go_ret
  exact ⟨rfl, rfl⟩
set_option maxHeartbeats 1600000 in
theorem get_in (base p n : Nat) (L : Value) (ts : Nat → Int) (ad ln cp : Nat → Nat) (f : Nat → Nat → Int) (i j : Nat) (w : World) (hm : MR w base p L n ts ad ln cp f) (hi : i < n) (hj : j < ln i) :
    Calls Try.prog 45 #[.pointer (some ⟨p, 0, none⟩), .int .i64 i, .int .i64 j] w fun e w' => e = .returned (.tuple #[.int .i64 (f i j), .bool true]) ∧ w = w' := by
  have HA := Lib.hid (has_in base p n L ts ad ln cp f i j w hm hi hj)
  have c3 := hm.inner i j hi hj
  obtain ⟨g, cap, rfl, hcap, _, _, _, _, hc⟩ := hm.row (by omega)
  have c0 := hm.cell
  obtain ⟨c1, c2⟩ := hc i hi
  clear hc hm hcap
  have hk0 : (0 : Int) ≤ (i : Int) := by omega
  have hk1 : (i : Int) < (n : Int) := by omega
  have hk2 : (0 : Int) ≤ (j : Int) := by omega
  have hk3 : (j : Int) < (ln i : Int) := by omega
  go_enter Try.func45, Try.ntmps45
  go_wp2_with ((go_at_call 26; refine (HA.out).mono ?_; rintro e w' ⟨rfl, rfl⟩))
  exact bodyPost_ret (v := .tuple #[.int .i64 (f i j), .bool true]) (by simp [results, Try.results45, go_sem, *]) rfl ⟨rfl, rfl⟩
def setF (f : Nat → Nat → Int) (i j : Nat) (v : Int) : Nat → Nat → Int := fun a b => if a = i ∧ b = j then v else f a b
theorem own_set {w : World} {base : Nat} {e : TypeId} {size : Nat} {L : Value} {n : Nat} {xs : List Value} (h : w.ownsRow base e size L n xs) {q : Addr} (hq : L.ownBlock ≠ some q.block) (v : Value) : (w.setCell q v).ownsRow base e size L n xs := by
  obtain ⟨h1, h2⟩ := h
  refine ⟨h1, ?_⟩
  rcases h2 with h2 | ⟨g, cap, cur, rfl, hg, hh, r⟩
  · exact .inl h2
  · exact .inr ⟨g, cap, cur, rfl, hg, (Below.heap_setCell w q v g (fun e => hq (by simp [Value.ownBlock, e]))).trans hh, r⟩
theorem MR.set {w : World} {base p n : Nat} {L : Value} {ts : Nat → Int} {ad ln cp : Nat → Nat} {f : Nat → Nat → Int} (hm : MR w base p L n ts ad ln cp f) {i j : Nat} (hi : i < n) (hj : j < ln i) (v : Int) :
    MR (w.setCell ⟨ad i, j, none⟩ (.int .i64 v)) base p L n ts ad ln cp (setF f i j v) := by
  have hs : (w.setCell ⟨ad i, j, none⟩ (.int .i64 v)).heap.size = w.heap.size := by simp
  have hA := hm.hA i hi
  have k := fun b (hb : b ≠ ad i) => Below.heap_setCell w ⟨ad i, j, none⟩ (.int .i64 v) b hb
  refine ⟨⟨hm.hp.1, by rw [hs]; exact hm.hp.2⟩, (m_kept (p := ⟨p, 0, none⟩) (k p (fun e => hA.2.2.1 e.symm))).trans hm.cell, (m_frz (p := ⟨p, 0, none⟩) (k p (fun e => hA.2.2.1 e.symm))).trans hm.frz, own_set hm.own (q := ⟨ad i, j, none⟩) hA.2.2.2.1 _, hm.hL, fun a ha => by rw [hs]; exact hm.hA a ha, hm.inj, fun a b ha hb => ?_, fun a b ha hb => ?_⟩
  · unfold setF
    by_cases e : a = i ∧ b = j
    · rw [if_pos e]
      obtain ⟨rfl, rfl⟩ := e
      exact World.cell?_setCell_same _ _ _ (hm.inner a b ha hb)
    · rw [if_neg e, World.cell?_setCell_other _ _ _ _ (fun q => e (by injection q with q1 q2; exact ⟨hm.inj a i ha hi q1.symm, q2.symm⟩))]
      exact hm.inner a b ha hb
  · simpa [go_sem] using hm.ifrz a b ha hb
theorem MR.below {w w' : World} {base p n : Nat} {L : Value} {ts : Nat → Int} {ad ln cp : Nat → Nat} {f : Nat → Nat → Int} (hm : MR w base p L n ts ad ln cp f) (hb : Below w.heap.size w w') : MR w' base p L n ts ad ln cp f :=
  ⟨⟨hm.hp.1, Nat.lt_of_lt_of_le hm.hp.2 hb.size⟩, (hb.cell (p := ⟨p, 0, none⟩) hm.hp.2).trans hm.cell, (hb.frozen (p := ⟨p, 0, none⟩) hm.hp.2).trans hm.frz, own_below hm.own hb, hm.hL,
   fun i hi => ⟨(hm.hA i hi).1, Nat.lt_of_lt_of_le (hm.hA i hi).2.1 hb.size, (hm.hA i hi).2.2⟩, hm.inj, fun i j hi hj => (hb.cell (p := ⟨ad i, j, none⟩) (hm.hA i hi).2.1).trans (hm.inner i j hi hj), fun i j hi hj => (hb.frozen (p := ⟨ad i, j, none⟩) (hm.hA i hi).2.1).trans (hm.ifrz i j hi hj)⟩
set_option maxHeartbeats 1600000 in
theorem set_in (base p n : Nat) (L : Value) (ts : Nat → Int) (ad ln cp : Nat → Nat) (f : Nat → Nat → Int) (i j : Nat) (v : Int) (w : World) (hm : MR w base p L n ts ad ln cp f) (hi : i < n) (hj : j < ln i) (hb0 : base ≤ w.heap.size) :
    Calls Try.prog 14 #[.pointer (some ⟨p, 0, none⟩), .int .i64 i, .int .i64 j, .int .i64 v] w fun e w' => e = .returned (.bool true) ∧ Below base w w' ∧ MR w' base p L n ts ad ln cp (setF f i j (wrapT (ts i) v)) := by
  have HA := Lib.hid (has_in base p n L ts ad ln cp f i j w hm hi hj)
  have HM := Lib.hid hm
  have HAi := Lib.hid (hm.hA i hi)
  obtain ⟨g, cap, rfl, hcap, _, _, _, _, hc⟩ := hm.row (by omega)
  have c0 := hm.cell
  obtain ⟨c1, c2⟩ := hc i hi
  clear hc hm hcap
  have hk0 : (0 : Int) ≤ (i : Int) := by omega
  have hk1 : (i : Int) < (n : Int) := by omega
  have hk2 : (0 : Int) ≤ (j : Int) := by omega
  have hk3 : (j : Int) < (ln i : Int) := by omega
  go_enter Try.func14, Try.ntmps14
  go_upto_region 3 with ((go_at_call 26; refine (HA.out).mono ?_; rintro e w' ⟨rfl, rfl⟩))
  obtain ⟨wo, rfl⟩ : ∃ wo : World, wo = w := ⟨_, rfl⟩
  have d0 := fun (x' : WIn (Below wo.heap.size wo)) => cell_later x'.h c0
  have d1 := fun (x' : WIn (Below wo.heap.size wo)) => cell_later x'.h c1
  have d2 := fun (x' : WIn (Below wo.heap.size wo)) => cell_later x'.h c2
  clear c0 c1 c2
  refine region_tail 20 (Below wo.heap.size wo) (by kernel_rfl) (by kernel_rfl) (Below.refl _ _).drew (fun inst => ?_)
  simp only [List.take_succ_cons, List.take_zero, List.drop_succ_cons, List.drop_zero]
  iterate 20 (go_big_quiet_step ((go_at_call 27; exact call_same _ (wrap_c (ts i) v _))))
  refine wpQuiet_nil ?_
  intro wd hbd
  have HD := Lib.hid (HM.out.below hbd)
  have k4 : wd.cell? ⟨ad i, j, none⟩ = some (.int .i64 (f i j)) := HD.out.inner i j hi hj
  have f4 : wd.frozen? ⟨ad i, j, none⟩ = false := HD.out.ifrz i j hi hj
  have HR : Hid (Below base wo (wd.setCell ⟨ad i, j, none⟩ (.int .i64 (wrapT (ts i) v))) ∧ MR (wd.setCell ⟨ad i, j, none⟩ (.int .i64 (wrapT (ts i) v))) base p (.slice (some ⟨g, 0, none⟩) n cap) n ts ad ln cp (setF f i j (wrapT (ts i) v))) := Lib.hid ⟨(hbd.mono hb0).setCell (p := ⟨ad i, j, none⟩) HAi.out.1 _, HD.out.set hi hj _⟩
  clear d0 d1 d2
  go_wp2_with fail
  go_ret
  exact ⟨rfl, HR.out⟩
end Go.Proofs.Ytkgdogdallojlaa.C
